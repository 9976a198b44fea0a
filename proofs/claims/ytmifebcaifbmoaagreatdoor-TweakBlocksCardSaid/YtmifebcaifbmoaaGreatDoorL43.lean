/- Parts of the proof of TweakBlocks. Blocks: cofferlaw03.TweakBlocks, walked. -/
import Derived.Test.YtmifebcaifbmoaaGreatDoorL00
import Derived.Test.YtmifebcaifbmoaaGreatDoorL42
import Derived.Test.YtmifebcaifbmoaaGreatDoorL22
import Derived.Test.YtmifebcaifbmoaaGreatDoorL25
/- Blocks -/
section
namespace Go.Proofs.YtmifebcaifbmoaaGreatDoor.TBlocks
open Go.RowKit Go.Lib Go.Proofs.YtmifebcaifbmoaaGreatDoor.Blk Go.Proofs.YtmifebcaifbmoaaGreatDoor.Aes Go.Proofs.YtmifebcaifbmoaaGreatDoor.Tab Go.Proofs.YtmifebcaifbmoaaGreatDoor.Byts Go.Proofs.YtmifebcaifbmoaaGreatDoor.Push Go.Proofs.YtmifebcaifbmoaaGreatDoor.Poly Go.Proofs.YtmifebcaifbmoaaGreatDoor.Field Go.Proofs.YtmifebcaifbmoaaGreatDoor.Tw Go.Proofs.YtmifebcaifbmoaaGreatDoor.G
section
variable {P : Program} {a : Act} {w : World} {o : Oper} {K : Act → World → Prop} {Q : Exit → Act → World → Prop}
theorem w_lit6 (t e : TypeId) (x0 x1 x2 x3 x4 x5 : Operand) (ho : o.op = .buildSlice t 6 #[(0, x0), (1, x1), (2, x2), (3, x3), (4, x4), (5, x5)]) (k : IntKind) (c0 c1 c2 c3 c4 c5 : Int) (e0 : a.eval x0 = .int k c0) (e1 : a.eval x1 = .int k c1) (e2 : a.eval x2 = .int k c2) (e3 : a.eval x3 = .int k c3) (e4 : a.eval x4 = .int k c4) (e5 : a.eval x5 = .int k c5)
    (hu : P.underlying t = some (.slice e)) {ie : TypeInfo} {z : Value} (hie : P.info? e = some ie) (hz : ie.zero = some z) (hs : ie.size = 1)
    (h : K (a.put o.dst (.slice (some ⟨w.heap.size, 0, none⟩) 6 6)) (w.alloc (.cells #[.int k c0, .int k c1, .int k c2, .int k c3, .int k c4, .int k c5] e))) : o.wp P a w K Q := by
  refine wp_buildSlice t e 6 _ ho _ ie z hu hie hz (by rw [hs]; decide) (by rw [hs]; decide) ?_ h
  simp only [List.map_toArray, List.map_cons, List.map_nil, e0, e1, e2, e3, e4, e5, hs]
  have := Great.fill_whole (s := 1) (by decide) [.int k c0, .int k c1, .int k c2, .int k c3, .int k c4, .int k c5] ((Array.range (6 * 1)).map (z.cells[· % z.cells.size]!)) (fun v hv => by
    simp only [List.mem_cons, List.not_mem_nil, or_false] at hv
    rcases hv with rfl | rfl | rfl | rfl | rfl | rfl <;> rfl) (by simp)
  simpa [Value.cells] using this
end
theorem int_info : ∃ i, Tryz.prog.info? 3 = some i ∧ i.zero = some (.int .i64 0) ∧ i.size = 1 ∧ i.bytes = 8 := info_parts' (by kernel_rfl)

def kL (j : Nat) : Nat := if j = 0 then 1 else 10 + j
theorem fitF_lt {n : Nat} {f : Nat → Nat} (hf : ∀ j, f j < 256) (j : Nat) : fitF n f j < 256 := by
  unfold fitF
  split
  · exact Nat.mod_lt _ (by decide)
  · exact hf _
theorem fitN_16 (z : Int) : fitN z true % 16 = 0 := by
  unfold fitN
  rw [if_pos rfl]
  omega
theorem sec_of {w : World} {g n : Nat} {f : Nat → Nat} {cur : Array Value} (h4 : w.heap[g]? = some (.cells cur 5 (0, 0))) (h : ∀ j, j < n → w.cell? ⟨g, j, none⟩ = some (.int .u8 (f j : Nat))) : Sec w g n f := by
  have hc : ∀ i, i < n → cur[i]? = some (.int .u8 (f i : Nat)) := fun i hi => by rw [← h i hi, cell_of_row w g i _ _ _ h4]
  refine ⟨cur, h4, ?_, hc⟩
  rcases Nat.lt_or_ge cur.size n with h5 | h5
  · have := hc cur.size h5
    simp at this
  · exact h5
theorem sec_bl0 {w : World} {g n : Nat} {f : Nat → Nat} (h : Sec w g n f) : BL w (some ⟨g, 0, none⟩) n f := fun i hi => ⟨g, 0, rfl, by rw [Nat.zero_add]; exact h.cell hi⟩
/-- one more byte of the own block, or of another one -/
theorem all_step {U V : Nat → Nat} {j p : Nat} {b : Bool} (h : b = true ↔ ∀ q, q < p → q / 16 = j → U q = V q) (hj : p / 16 = j) : (b && decide (U p = V p)) = true ↔ ∀ q, q < p + 1 → q / 16 = j → U q = V q := by
  rw [Bool.and_eq_true, decide_eq_true_eq, h]
  constructor
  · rintro ⟨h1, h2⟩ q hq hqj
    rcases Nat.lt_or_ge q p with h3 | h3
    · exact h1 q h3 hqj
    · obtain rfl : q = p := by omega
      exact h2
  · intro h1
    exact ⟨fun q hq => h1 q (by omega), h1 p (by omega) hj⟩
theorem all_skip {U V : Nat → Nat} {j p : Nat} {b : Bool} (h : b = true ↔ ∀ q, q < p → q / 16 = j → U q = V q) (hj : p / 16 ≠ j) : b = true ↔ ∀ q, q < p + 1 → q / 16 = j → U q = V q := by
  rw [h]
  constructor
  · intro h1 q hq hqj
    exact h1 q (by rcases Nat.lt_or_ge q p with h3 | h3; · exact h3
                   · obtain rfl : q = p := by omega
                     exact absurd hqj hj) hqj
  · intro h1 q hq
    exact h1 q (by omega)

/-- two lists of a block's bytes, compared so far -/
theorem two_step {U V : Nat → Nat} {j k : Nat} {b : Bool} (h : b = true ↔ ∀ q, q < k → U (16 * j + q) = V (16 * j + q)) : (b && decide (U (16 * j + k) = V (16 * j + k))) = true ↔ ∀ q, q < k + 1 → U (16 * j + q) = V (16 * j + q) := by
  rw [Bool.and_eq_true, decide_eq_true_eq, h]
  constructor
  · rintro ⟨h1, h2⟩ q hq
    rcases Nat.lt_or_ge q k with h3 | h3
    · exact h1 q h3
    · obtain rfl : q = k := by omega
      exact h2
  · intro h1
    exact ⟨fun q hq => h1 q (by omega), h1 k (by omega)⟩
section
variable {P : Program} {a : Act} {w : World} {o : Oper} {K : Act → World → Prop} {Q : Exit → Act → World → Prop}
theorem w_copyS2 (dT sT elem : TypeId) (x y : Operand) (ho : o.op = .call { callee := .builtin .copy, args := #[x, y], argTypes := #[dT, sT] }) (hu : P.underlying dT = some (.slice elem)) (hs : (P.info? elem).map (·.size) = some 1)
    (g so dLen dCap : Nat) (hx : a.eval x = .slice (some ⟨g, so, none⟩) dLen dCap) (b sLen sCap : Nat) (hy : a.eval y = .slice (some ⟨b, 0, none⟩) sLen sCap) {n : Nat} {F f : Nat → Nat} (hS : Sec w g n F) (hc : ∀ i, i < sLen → w.cell? ⟨b, i, none⟩ = some (.int .u8 (f i : Nat))) (hle : sLen ≤ dLen ∧ so + dLen ≤ n)
    (h : ∀ w', Sec w' g n (fun i => if so ≤ i ∧ i < so + sLen then f (i - so) else F i) → w.grownBy w' (some g) → K (a.put o.dst (.int .i64 sLen)) w') : o.wp P a w K Q := by
  obtain ⟨cur, h1, h2, h3⟩ := hS.c
  refine Tw.w_copy dT sT elem x y ho hu hs g so dLen dCap hx ⟨b, 0, none⟩ sLen sCap hy (Push.bl f sLen) h1 (by rw [Push.bl_len]; exact (Nat.min_eq_left (by omega)).symm) (fun j v hj => ?_) (by rw [Push.bl_len]; omega) (fun v hv => ?_) ?_
  · have hl : j < sLen := by have := (List.getElem?_eq_some_iff.1 hj).1; rwa [Push.bl_len] at this
    rw [Push.bl_get _ _ _ hl] at hj
    rw [Addr.add_mid, ← hj, Nat.zero_add]
    exact hc j hl
  · obtain ⟨i, hi⟩ := List.mem_iff_getElem?.1 hv
    have hl : i < sLen := by have := (List.getElem?_eq_some_iff.1 hi).1; rwa [Push.bl_len] at this
    rw [Push.bl_get _ _ _ hl] at hi
    cases hi
    rfl
  · rw [Push.bl_len]
    refine h _ ⟨_, setRow_heap w g _ _ _ (0, 0) h1, by rw [Tree.patch_size _ _ _ (by rw [Push.bl_len]; omega)]; exact h2, fun i hi => ?_⟩ ⟨rfl, rfl, rfl, by simp, fun x _ hc => setRow_other w g x _ (fun e => hc (by rw [e]))⟩
    rw [Tw.patch_get _ _ _ (by rw [Push.bl_len]; omega), Push.bl_len]
    by_cases hin : so ≤ i ∧ i < so + sLen
    · rw [if_pos hin, if_pos hin, Push.bl_get _ _ _ (by omega)]
    · rw [if_neg hin, if_neg hin]
      exact h3 i hi
end

set_option maxRecDepth 100000 in
set_option maxHeartbeats 8000000 in
theorem law_any (z nz jz : Int) (hz : IntKind.i64.has z) (hnz : IntKind.i64.has nz) (s : Nat) (hs : s < 2 ^ 64) (q : Option Addr) (n cap : Nat) (fk : Nat → Nat) (hfk : ∀ j, fk j < 256) (bq : Option Addr) (bn bcap : Nat) (fb : Nat → Nat) (hfb : ∀ j, fb j < 256) (xn : Nat) (w : World) (hV : Vars w)
    (hB : BL w q n fk) (hnc : n ≤ cap) (hcm : cap ≤ 9223372036854775807) (hB2 : BL w bq bn fb) (hnc2 : bn ≤ bcap) (hcm2 : bcap ≤ 9223372036854775807) :
    Calls Tryz.prog 3 #[pickV z q n cap, .int .u64 s, .slice bq bn bcap, .int .i64 nz, .int .i64 jz, B16 xn] w fun e w' => e = .returned (.bool true) ∧ Below w.heap.size w w' := by
  have hrl : 2 < w.heap.size := Frame.block_lt (hV.r 0 (by decide))
  have hi0 : nnP z / 6 % 3 < 3 := Nat.mod_lt _ (by decide)
  have hk0 : nnP z % 6 < 6 := Nat.mod_lt _ (by decide)
  have OF := Lib.hid (fun g w' hc => of_any kL 6 (by decide) (by decide) (fun j hj => by unfold kL; split <;> omega) z hz q n cap g 6 w' hc)
  obtain ⟨i0, hie⟩ : ∃ i0, nnP z / 6 % 3 = i0 := ⟨_, rfl⟩
  obtain ⟨k0, hke⟩ : ∃ k0, nnP z % 6 = k0 := ⟨_, rfl⟩
  have EO : ofN kL 6 z = 1 + 17 * i0 + (if k0 = 0 then 0 else 9 + k0) := by
    unfold ofN kL
    rw [hie, hke]
    split <;> omega
  rw [EO] at OF
  rw [hie] at hi0
  rw [hke] at hk0
  have MD : Hid (∀ w', Below w.heap.size w w' → Calls Tryz.prog 11 #[pickV ((1 + 17 * i0 + (if k0 = 0 then 0 else 9 + k0) : Nat) : Int) q n cap] w' fun e w2 => ∃ cb rb, e = .returned (.tuple #[.pointer (some ⟨cb, 0, none⟩), .pointer (some ⟨rb, 0, none⟩), .bool true]) ∧ PrS (keyE (keyF n fk) (4 + 2 * i0)) cb w2 ∧ Below w'.heap.size w' w2) := Lib.hid fun w' b => by
    have rl : ∀ w2, Below w'.heap.size w' w2 → 2 < w2.heap.size := fun w2 h => Nat.lt_of_lt_of_le hrl (Nat.le_trans b.size h.size)
    rcases (show k0 = 0 ∨ k0 = 1 ∨ k0 = 2 ∨ k0 = 3 ∨ k0 = 4 ∨ k0 = 5 by omega) with rfl | rfl | rfl | rfl | rfl | rfl
    · exact (madeE0 i0 hi0 q n cap fk hfk w' (hV.below b) (hB.below b) hnc hcm).mono fun e w2 ⟨cb, rb, e1, e2, e3⟩ => ⟨cb, rb, e1, PrS.ofE (rl w2 e3) e2, e3⟩
    · exact (madeX10 i0 hi0 q n cap fk hfk w' (hV.below b) (hB.below b) hnc hcm).mono fun e w2 ⟨cb, rb, e1, e2, e3⟩ => ⟨cb, rb, e1, PrS.ofX (rl w2 e3) e2, e3⟩
    · exact (madeX11 i0 hi0 q n cap fk hfk w' (hV.below b) (hB.below b) hnc hcm).mono fun e w2 ⟨cb, rb, e1, e2, e3⟩ => ⟨cb, rb, e1, PrS.ofX (rl w2 e3) e2, e3⟩
    · exact (madeX12 i0 hi0 q n cap fk hfk w' (hV.below b) (hB.below b) hnc hcm).mono fun e w2 ⟨cb, rb, e1, e2, e3⟩ => ⟨cb, rb, e1, PrS.ofX (rl w2 e3) e2, e3⟩
    · exact (madeX13 i0 hi0 q n cap fk hfk w' (hV.below b) (hB.below b) hnc hcm).mono fun e w2 ⟨cb, rb, e1, e2, e3⟩ => ⟨cb, rb, e1, PrS.ofX (rl w2 e3) e2, e3⟩
    · exact (madeLrw_any i0 hi0 q n cap fk hfk w' (hV.m.below b) (hV.s.below b) (hV.r.below b) (hB.below b) hnc hcm).mono fun e w2 ⟨cb, rb, e1, e2, e3⟩ => ⟨cb, rb, e1, PrS.ofL (keyF_lt hfk) e2, e3⟩
  have FT := Lib.hid (fun w' (b : Below w.heap.size w w') => fit_any bq bn bcap fb nz hnz true w' (hB2.below b) hnc2 hcm2)
  have FL := Lib.hid (fitF_lt (n := bn) hfb)
  have PK := Lib.hid (fun (cb : Nat) (w1 w2 : World) (h : PrS (keyE (keyF n fk) (4 + 2 * i0)) cb w1) (b : Below w1.heap.size w1 w2) => h.below b)
  have EI : Hid (∀ t a b, a < 2 ^ 128 → b < 2 ^ 128 → (∀ i, i < 16 → byt (msk (keyE (keyF n fk) (4 + 2 * i0)) t a) i = byt (msk (keyE (keyF n fk) (4 + 2 * i0)) t b) i) → a = b) := Lib.hid (fun t a b ha hb h => msk_inj (fun j _ => keyF_lt hfk j) (by omega) t a b ha hb h)
  obtain ⟨F1, F2⟩ := fitN_bd nz true
  have F3 := fitN_16 nz
  clear hV hB hB2 EO hfk hfb hz hnz hie hke hi0 hk0
  unfold pickV at *
  generalize (1 + 17 * i0 + (if k0 = 0 then 0 else 9 + k0) : Nat) = t at *
  generalize keyE (keyF n fk) (4 + 2 * i0) = E at *
  generalize fitN nz true = N at *
  generalize fitF bn fb = fB at *
  go_enter Tryz.func3, Tryz.ntmps3
  go_upto_region 0 with fail
  refine wp_region_lit ?_
  refine Seg.p_boxA rfl 24 _ rfl #[.int .i64 z, .slice q n cap] rfl ?_
  simp only [Act.put, sA9, sB9, sC9]
  refine New.p_box rfl 27 _ rfl .u8 16 (fun i => ((byt xn i : Nat) : Int)) rfl ?_
  intro w1 a1 g1 s1
  simp only [Act.put, sA9, sB9, sC9]
  have hxn : (w.alloc (.cells #[.int .i64 z, .slice q n cap] 24)).heap.size ≠ w.heap.size := by simp
  have P0 := Lib.hid ((pkv_new z q n cap w).next (Rj.bel_of_gb (_B := 0) g1))
  have X0 := Lib.hid a1
  clear a1 g1 s1
  generalize (w.alloc (.cells #[.int .i64 z, .slice q n cap] 24)).heap.size = xb at *
  refine Step.p_assign rfl _ rfl (.bool false) rfl ?_
  simp only [Act.put, sA9, sB9, sC9]
  refine wpList_nil ?_
  go_upto_region 1 with fail
  refine wp_region_lit ?_
  refine Tree.p_loadrow rfl _ _ rfl (w.heap.size) rfl (P0.out.p) Tryz.underlying24 rfl (by kernel_rfl) ?_
  simp only [Act.put, sA9, sB9, sC9]
  obtain ⟨iI, hI1, hI2, hI3, _⟩ := int_info
  refine Step.p_wp rfl (w_lit6 _ _ _ _ _ _ _ _ rfl .i64 1 11 12 13 14 15 rfl rfl rfl rfl rfl rfl Tryz.underlying29 hI1 hI2 hI3 ?_)
  simp only [Act.put, sA9, sB9, sC9]
  have X1 := Lib.hid (X0.out.alloc (.cells #[.int .i64 1, .int .i64 11, .int .i64 12, .int .i64 13, .int .i64 14, .int .i64 15] 3))
  clear X0
  have P1 := Lib.hid (P0.out.alloc (.cells #[.int .i64 1, .int .i64 11, .int .i64 12, .int .i64 13, .int .i64 14, .int .i64 15] 3))
  have hck : ∀ j, j < 6 → (w1.alloc (.cells #[.int .i64 1, .int .i64 11, .int .i64 12, .int .i64 13, .int .i64 14, .int .i64 15] 3)).cell? ⟨w1.heap.size, j, none⟩ = some (.int .i64 ((kL j : Nat) : Int)) := fun j hj => by
    rw [cell_of_row _ _ _ _ _ _ (heap_alloc_new w1 _)]
    match j, hj with
    | 0, _ => rfl
    | 1, _ => rfl
    | 2, _ => rfl
    | 3, _ => rfl
    | 4, _ => rfl
    | 5, _ => rfl
    | m + 6, hm => exact absurd hm (by omega)
  have H1 := Lib.hid (OF.out w1.heap.size (w1.alloc (.cells #[.int .i64 1, .int .i64 11, .int .i64 12, .int .i64 13, .int .i64 14, .int .i64 15] 3)) hck)
  clear hck
  generalize (w1.alloc (.cells #[.int .i64 1, .int .i64 11, .int .i64 12, .int .i64 13, .int .i64 14, .int .i64 15] 3)) = w2 at *
  clear P0 OF
  refine Step.p_wp rfl (Step.w_callx 10 [.tmp 26, .tmp 27] _ rfl Tryz.func10 (by kernel_rfl) rfl [.agg #[.int .i64 z, .slice q n cap], .slice (some ⟨w1.heap.size, 0, none⟩) 6 6] rfl (H1.out) ?_)
  rintro e w3 ⟨rfl, hb⟩
  refine ⟨_, rfl, ?_⟩
  simp only [Act.put, sA9, sB9, sC9]
  have X2 := Lib.hid (Rj.bel_arr (_B := 0) X1.out hb)
  clear X1
  have P2 := Lib.hid (P1.out.next hb)
  clear hb P1 H1
  refine Cell.p_storerow rfl 24 _ _ rfl w.heap.size rfl #[.int .i64 (t : Nat), .slice q n cap] rfl (by kernel_rfl) (by simp [Value.oneCell']) P2.out.p rfl ?_
  intro w4 hr4 hg4 _
  simp only [Act.put]
  refine wpList_nil ?_
  have P3 : Hid (PkV (t : Nat) q n cap w.heap.size w w4) := Lib.hid ⟨hr4, P2.out.bel.grown hg4 P2.out.bel.size (fun j hj => by cases hj; exact Nat.le_refl _)⟩
  have X3 := Lib.hid (X2.out.grown hg4 hxn)
  clear X2
  clear hr4 hg4 P2
  go_upto_region 2 with fail
  refine wp_region_lit ?_
  refine Tree.p_loadrow rfl _ _ rfl (w.heap.size) rfl (P3.out.p) Tryz.underlying24 rfl (by kernel_rfl) ?_
  simp only [Act.put, sA9, sB9, sC9]
  refine Step.p_wp rfl (Step.w_callx 11 [.tmp 30] _ rfl Tryz.func11 (by kernel_rfl) rfl [.agg #[.int .i64 (t : Nat), .slice q n cap]] rfl (MD.out w4 P3.out.bel) ?_)
  rintro e w5 ⟨cb, rb, rfl, hci, hb⟩
  refine ⟨_, rfl, ?_⟩
  simp only [Act.put, sA9, sB9, sC9]
  have X5 := Lib.hid (Rj.bel_arr (_B := 0) X3.out hb)
  clear X3
  have B5 := Lib.hid (P3.out.bel.trans (hb.mono P3.out.bel.size))
  have C5 := Lib.hid hci
  clear hb hci P3 MD
  refine Step.p_move rfl _ rfl (.tuple #[.pointer (some ⟨cb, 0, none⟩), .pointer (some ⟨rb, 0, none⟩), .bool true]) rfl ?_
  simp only [Act.put, sA9, sB9, sC9]
  refine Step.p_val rfl (.pointer (some ⟨cb, 0, none⟩)) (by unfold execOp; go_simp; try rfl) ?_
  simp only [Act.put, sA9, sB9, sC9]
  refine Step.p_val rfl (.pointer (some ⟨rb, 0, none⟩)) (by unfold execOp; go_simp; try rfl) ?_
  simp only [Act.put, sA9, sB9, sC9]
  refine Step.p_val rfl (.bool true) (by unfold execOp; go_simp; try rfl) ?_
  simp only [Act.put, sA9, sB9, sC9]
  refine Step.p_assign rfl _ rfl (.pointer (some ⟨cb, 0, none⟩)) rfl ?_
  simp only [Act.put, sA9, sB9, sC9]
  refine Step.p_assign rfl _ rfl (.pointer (some ⟨rb, 0, none⟩)) rfl ?_
  simp only [Act.put, sA9, sB9, sC9]
  refine Step.p_assign rfl _ rfl (.bool true) rfl ?_
  simp only [Act.put, sA9, sB9, sC9]
  refine wpList_nil ?_
  go_upto_region 5 with fail
  refine wp_region_lit ?_
  refine Step.p_move rfl _ rfl (.slice bq bn bcap) rfl ?_
  simp only [Act.put, sA9, sB9, sC9]
  refine Step.p_move rfl _ rfl (.int .i64 nz) rfl ?_
  simp only [Act.put, sA9, sB9, sC9]
  refine Step.p_wp rfl (Step.w_callx 12 [.tmp 37, .tmp 38, .const (.bool true)] _ rfl Tryz.func12 (by kernel_rfl) rfl [.slice bq bn bcap, .int .i64 nz, .bool true] rfl (FT.out w5 B5.out) ?_)
  rintro e w6 ⟨v, rfl, ho, hb⟩
  refine ⟨_, rfl, ?_⟩
  simp only [Act.put, sA9, sB9, sC9]
  have X6 := Lib.hid (Rj.bel_arr (_B := 0) X5.out hb)
  clear X5
  obtain ⟨gb, c, rfl, x1, x2, x3, x4⟩ := ho
  have BB : Hid (BL w6 (some ⟨gb, 0, none⟩) N fB) := Lib.hid (fun i hi => ⟨gb, 0, rfl, by rw [Nat.zero_add]; exact x4 i hi⟩)
  have hgb : w5.heap.size ≤ gb := x1
  have B6 := Lib.hid (B5.out.trans (hb.mono B5.out.size))
  have C6 := Lib.hid (PK.out _ _ _ C5.out hb)
  have x2c := x2
  have x3c := x3
  clear hb x4 x1 x2 x3 C5 FT
  refine Step.p_assign rfl _ rfl (.slice (some ⟨gb, 0, none⟩) N c) rfl ?_
  simp only [Act.put, sA9, sB9, sC9]
  refine wpList_nil ?_
  obtain ⟨tt, hC⟩ := C6.out
  have CG := Lib.hid hC
  clear hC C6 PK
  obtain ⟨m, hm⟩ : ∃ m, N / 16 = m := ⟨_, rfl⟩
  have hm1 : 1 ≤ m ∧ m ≤ 32 := by omega
  have hNm : N = 16 * m := by omega
  have HM : Hid ((N : Int).tdiv 16 = (m : Nat)) := Lib.hid (by rw [← hm]; rfl)
  have HNM := Lib.hid hNm
  have HMD := Lib.hid hm
  clear hNm hm
  obtain ⟨j, hj⟩ : ∃ j, (jz % 18446744073709551616).toNat % m = j := ⟨_, rfl⟩
  have hjm : j < m := by rw [← hj]; exact Nat.mod_lt _ (by omega)
  have HJ : Hid ((jz % 18446744073709551616).tmod (m : Int) = (j : Nat)) := Lib.hid (by rw [← hj, Int.tmod_eq_emod_of_nonneg (by omega), Int.natCast_emod, Int.toNat_of_nonneg (by omega)])
  have hm0 : ¬ ((m : Int) = 0) := by omega
  clear hj
  go_upto_region 6 with fail
  refine wp_region_lit ?_
  refine Step.p_move rfl _ rfl (.int .i64 jz) rfl ?_
  simp only [Act.put, sA9, sB9, sC9]
  refine Step.p_val rfl (.int .u64 (jz % 18446744073709551616)) (by unfold execOp; go_simp; exact IntKind.wrap_u64 jz) ?_
  simp only [Act.put, sA9, sB9, sC9]
  refine Step.p_move rfl _ rfl (.slice (some ⟨gb, 0, none⟩) N c) rfl ?_
  simp only [Act.put, sA9, sB9, sC9]
  refine Step.p_len rfl _ _ 5 rfl (_) (N) (c) rfl Tryz.underlying22 ?_
  simp only [Act.put, sA9, sB9, sC9]
  refine Step.p_val rfl (.int .i64 m) (by unfold execOp; have := HM.out; have := HNM.out; go_simp; try (first | omega | exact (IntWalk.i64_in _ (by omega)).trans (by omega))) ?_
  simp only [Act.put, sA9, sB9, sC9]
  refine Step.p_val rfl (.int .u64 m) (by unfold execOp; go_simp; try (exact (IntWalk.u64_in _ (by omega)).trans (by omega))) ?_
  simp only [Act.put, sA9, sB9, sC9]
  refine Step.p_val rfl (.int .u64 j) (by unfold execOp; have := HJ.out; go_simp; try (first | omega | (rw [if_neg hm0, HJ.out]) | trace_state)) ?_
  simp only [Act.put, sA9, sB9, sC9]
  refine Step.p_val rfl (.int .i64 j) (by unfold execOp; go_simp; try (exact IntWalk.i64_in _ (by omega))) ?_
  simp only [Act.put, sA9, sB9, sC9]
  refine Step.p_assign rfl _ rfl (.int .i64 j) rfl ?_
  simp only [Act.put, sA9, sB9, sC9]
  refine wpList_nil ?_
  go_upto_region 7 with fail
  refine wp_region_lit ?_
  refine Step.p_move rfl _ rfl (.slice (some ⟨gb, 0, none⟩) N c) rfl ?_
  simp only [Act.put, sA9, sB9, sC9]
  refine Step.p_wp rfl (Step.w_callx 13 [.tmp 48] _ rfl Tryz.func13 (by kernel_rfl) rfl [.slice (some ⟨gb, 0, none⟩) N c] rfl (bytes_any (some ⟨gb, 0, none⟩) N c fB w6 (by omega) x2c (fun h => by cases h) BB.out) ?_)
  rintro e w7 ⟨zb, zc, rfl, hzg, hz1, hz2, hz3, hb, cur, hz4⟩
  refine ⟨_, rfl, ?_⟩
  simp only [Act.put, sA9, sB9, sC9]
  have Z7 : Hid (Sec w7 zb N fB) := Lib.hid (sec_of hz4 fun i hi => by rw [hz3 i (by omega), row_get _ _ _ _ hi])
  have B7 := Lib.hid hb
  have hxz : xb < w6.heap.size := X6.out.lt
  have hzc : N ≤ zc ∧ zc ≤ 9223372036854775807 := ⟨by omega, by unfold maxLen at hz2; omega⟩
  have X7 := Lib.hid (X6.out.below B7.out hxz)
  clear hb hz3 hz4 cur hz1 hz2
  refine Step.p_assign rfl _ rfl (.slice (some ⟨zb, 0, none⟩) N zc) rfl ?_
  simp only [Act.put, sA9, sB9, sC9]
  refine wpList_nil ?_
  have hnm := HNM.out
  go_upto_region 8 with fail
  refine Step.begin_ (S := fun _ => True) 6 rfl (by kernel_rfl) trivial ?_
  intro hSS
  clear hSS
  refine Step.t_move (i := 0) rfl rfl (by kernel_rfl) (by kernel_rfl) (by kernel_rfl) trivial _ rfl (.slice (some ⟨zb, 0, none⟩) N zc) rfl ?_
  simp only [Act.put, sA9, sB9, sC9]
  refine Step.t_move (i := 1) rfl rfl (by kernel_rfl) (by kernel_rfl) (by kernel_rfl) trivial _ rfl (.int .i64 j) rfl ?_
  simp only [Act.put, sA9, sB9, sC9]
  refine Step.t_val (i := 4) rfl rfl (by kernel_rfl) (by kernel_rfl) (by kernel_rfl) trivial (.slice (some ⟨xb, 0, none⟩) 16 16) (fun w' _ => by unfold execOp; go_simp; try rfl) ?_
  simp only [Act.put, sA9, sB9, sC9]
  refine Step.t_val (i := 2) rfl rfl (by kernel_rfl) (by kernel_rfl) (by kernel_rfl) trivial (.int .i64 (16 * j : Nat)) (fun w' _ => by unfold execOp; go_simp; try (first | rfl | omega | exact (IntWalk.i64_in _ (by omega)).trans (by omega) | exact IntWalk.i64_in _ (by omega))) ?_
  simp only [Act.put, sA9, sB9, sC9]
  refine Step.t_val (i := 3) rfl rfl (by kernel_rfl) (by kernel_rfl) (by kernel_rfl) trivial (.slice (some ⟨zb, 16 * j, none⟩) (N - 16 * j) (zc - 16 * j)) (fun w' _ => by unfold execOp; go_simp; first | (rw [if_pos ⟨by omega, by omega⟩, show (16 * (j : Int)).toNat = 16 * j by omega, if_neg (by omega)]) | (rw [if_pos ⟨by omega, by omega⟩, show (16 * (j : Int)).toNat = 16 * j by omega]; rw [if_neg (by omega)]) | trace_state) ?_
  simp only [Act.put, sA9, sB9, sC9]
  refine Step.t_one (i := 5) rfl rfl (by kernel_rfl) ?_
  refine w_copyS2 _ _ 5 _ _ rfl Tryz.underlying22 (by kernel_rfl) zb (16 * j) (N - 16 * j) (zc - 16 * j) rfl xb 16 16 rfl (w := w7.drew) (show Sec w7.drew zb N fB from ⟨Z7.out.c⟩) (f := byt xn) (fun i hi => (show w7.drew.cell? _ = _ from X7.out.cell hi)) ⟨by omega, by omega⟩ ?_
  intro w8 hs8 hg8
  refine ⟨trivial, ?_⟩
  simp only [Act.put, sA9, sB9, sC9]
  refine Step.t_end (by kernel_rfl) ?_
  have Z8 : Hid (Sec w8 zb N (putF fB j xn)) := Lib.hid hs8
  have B8 : Hid (Below w6.heap.size w6 w8) := Lib.hid (B7.out.drew.grown hg8 B7.out.size (fun g hg => by cases hg; exact hzg))
  clear hs8 hg8 Z7 B7 X7 X6
  have BB8 := Lib.hid (fun i hi => BB.out.below B8.out i hi)
  have B08 := Lib.hid (B6.out.trans (B8.out.mono B6.out.size))
  have FZ := Lib.hid (putF_lt (x := xn) FL.out j)
  clear B6
  go_upto_region 9 with fail
  refine wp_region_lit ?_
  refine Step.p_move rfl _ rfl (.pointer (some ⟨cb, 0, none⟩)) rfl ?_
  simp only [Act.put, sA9, sB9, sC9]
  refine Step.p_move rfl _ rfl (.int .u64 s) rfl ?_
  simp only [Act.put, sA9, sB9, sC9]
  refine Step.p_move rfl _ rfl (.slice (some ⟨gb, 0, none⟩) N c) rfl ?_
  simp only [Act.put, sA9, sB9, sC9]
  refine Step.p_wp rfl (Step.w_callx 14 [.tmp 57, .tmp 58, .tmp 59] _ rfl Tryz.func14 (by kernel_rfl) rfl [.pointer (some ⟨cb, 0, none⟩), .int .u64 s, .slice (some ⟨gb, 0, none⟩) N c] rfl (CG.out w8 B8.out s hs gb 0 N c F3 F1 (by omega) fB FL.out BB8.out) ?_)
  rintro e w9 ⟨g1, rfl, hsec, _, hb⟩
  refine ⟨_, rfl, ?_⟩
  simp only [Act.put, sA9, sB9, sC9]
  have U9 : Hid (Sec w9 g1 N (blkF (fun j x => msk E (tt s N j) x) fB (N / 16))) := Lib.hid hsec
  have B9 := Lib.hid (B8.out.trans (hb.mono B8.out.size))
  have B09 := Lib.hid (B08.out.trans (hb.mono B08.out.size))
  have Z9 := Lib.hid (Z8.out.below hb)
  clear hb hsec B8 B08 Z8 BB8
  refine Step.p_move rfl _ rfl (.tuple #[.slice (some ⟨g1, 0, none⟩) N N, .int .i64 0]) rfl ?_
  simp only [Act.put, sA9, sB9, sC9]
  refine Step.p_val rfl (.slice (some ⟨g1, 0, none⟩) N N) (by unfold execOp; go_simp; try rfl) ?_
  simp only [Act.put, sA9, sB9, sC9]
  refine Step.p_val rfl (.int .i64 0) (by unfold execOp; go_simp; try rfl) ?_
  simp only [Act.put, sA9, sB9, sC9]
  refine Step.p_assign rfl _ rfl (.slice (some ⟨g1, 0, none⟩) N N) rfl ?_
  simp only [Act.put, sA9, sB9, sC9]
  refine Step.p_assign rfl _ rfl (.int .i64 0) rfl ?_
  simp only [Act.put, sA9, sB9, sC9]
  refine wpList_nil ?_
  go_upto_region 10 with fail
  refine wp_region_lit ?_
  refine Step.p_move rfl _ rfl (.pointer (some ⟨cb, 0, none⟩)) rfl ?_
  simp only [Act.put, sA9, sB9, sC9]
  refine Step.p_move rfl _ rfl (.int .u64 s) rfl ?_
  simp only [Act.put, sA9, sB9, sC9]
  refine Step.p_move rfl _ rfl (.slice (some ⟨zb, 0, none⟩) N zc) rfl ?_
  simp only [Act.put, sA9, sB9, sC9]
  refine Step.p_wp rfl (Step.w_callx 14 [.tmp 64, .tmp 65, .tmp 66] _ rfl Tryz.func14 (by kernel_rfl) rfl [.pointer (some ⟨cb, 0, none⟩), .int .u64 s, .slice (some ⟨zb, 0, none⟩) N zc] rfl (CG.out w9 B9.out s hs zb 0 N zc F3 F1 (by omega) _ FZ.out (sec_bl0 Z9.out)) ?_)
  rintro e w10 ⟨g2, rfl, hsec, _, hb⟩
  refine ⟨_, rfl, ?_⟩
  simp only [Act.put, sA9, sB9, sC9]
  have V0 : Hid (Sec w10 g2 N (blkF (fun j x => msk E (tt s N j) x) (putF fB j xn) (N / 16))) := Lib.hid hsec
  have U0 := Lib.hid (U9.out.below hb)
  have Z0 := Lib.hid (Z9.out.below hb)
  have B0 := Lib.hid (B09.out.trans (hb.mono B09.out.size))
  have CB : Hid (∀ i, i < N → w10.cell? ⟨gb, i, none⟩ = some (.int .u8 (fB i : Nat))) := Lib.hid (fun i hi => by
    obtain ⟨g0, o0, e, hc⟩ := BB.out.below (B9.out.trans (hb.mono B9.out.size)) i hi
    cases e
    rwa [Nat.zero_add] at hc)
  clear hb hsec B09 B9 Z9 U9 CG BB
  refine Step.p_move rfl _ rfl (.tuple #[.slice (some ⟨g2, 0, none⟩) N N, .int .i64 0]) rfl ?_
  simp only [Act.put, sA9, sB9, sC9]
  refine Step.p_val rfl (.slice (some ⟨g2, 0, none⟩) N N) (by unfold execOp; go_simp; try rfl) ?_
  simp only [Act.put, sA9, sB9, sC9]
  refine Step.p_val rfl (.int .i64 0) (by unfold execOp; go_simp; try rfl) ?_
  simp only [Act.put, sA9, sB9, sC9]
  refine Step.p_assign rfl _ rfl (.slice (some ⟨g2, 0, none⟩) N N) rfl ?_
  simp only [Act.put, sA9, sB9, sC9]
  refine Step.p_assign rfl _ rfl (.int .i64 0) rfl ?_
  simp only [Act.put, sA9, sB9, sC9]
  refine wpList_nil ?_
  go_upto_region 11 with fail
  refine wp_region_lit ?_
  refine Step.p_move rfl _ rfl (.int .i64 0) rfl ?_
  simp only [Act.put, sA9, sB9, sC9]
  refine Step.p_wp rfl (Step.w_callx 15 [.tmp 70] _ rfl Tryz.func15 (by kernel_rfl) rfl [.int .i64 0] rfl (num_any 0 _) ?_)
  rintro e w11 ⟨rfl, hw⟩
  refine ⟨_, rfl, ?_⟩
  simp only [Act.put, sA9, sB9, sC9]
  subst hw
  refine Step.p_val rfl (.bool false) (by unfold execOp; go_simp; try rfl) ?_
  simp only [Act.put, sA9, sB9, sC9]
  refine Step.p_move rfl _ rfl (.bool false) rfl ?_
  simp only [Act.put, sA9, sB9, sC9]
  refine Step.p_move rfl _ rfl (.int .i64 0) rfl ?_
  simp only [Act.put, sA9, sB9, sC9]
  refine Step.p_wp rfl (Step.w_callx 15 [.tmp 74] _ rfl Tryz.func15 (by kernel_rfl) rfl [.int .i64 0] rfl (num_any 0 _) ?_)
  rintro e w11 ⟨rfl, hw⟩
  refine ⟨_, rfl, ?_⟩
  simp only [Act.put, sA9, sB9, sC9]
  subst hw
  refine Step.p_val rfl (.bool false) (by unfold execOp; go_simp; try rfl) ?_
  simp only [Act.put, sA9, sB9, sC9]
  refine Step.p_pick rfl _ _ _ rfl false rfl (.bool false) rfl ?_
  simp only [Act.put, sA9, sB9, sC9]
  refine Step.p_move rfl _ rfl (.bool false) rfl ?_
  simp only [Act.put, sA9, sB9, sC9]
  refine Step.p_move rfl _ rfl (.slice (some ⟨g1, 0, none⟩) N N) rfl ?_
  simp only [Act.put, sA9, sB9, sC9]
  refine Step.p_len rfl _ _ 5 rfl (_) (N) (N) rfl Tryz.underlying22 ?_
  simp only [Act.put, sA9, sB9, sC9]
  refine Step.p_move rfl _ rfl (.slice (some ⟨gb, 0, none⟩) N c) rfl ?_
  simp only [Act.put, sA9, sB9, sC9]
  refine Step.p_len rfl _ _ 5 rfl (_) (N) (c) rfl Tryz.underlying22 ?_
  simp only [Act.put, sA9, sB9, sC9]
  refine Step.p_val rfl (.bool false) (by unfold execOp; go_simp; try rfl) ?_
  simp only [Act.put, sA9, sB9, sC9]
  refine Step.p_pick rfl _ _ _ rfl false rfl (.bool false) rfl ?_
  simp only [Act.put, sA9, sB9, sC9]
  refine Step.p_move rfl _ rfl (.bool false) rfl ?_
  simp only [Act.put, sA9, sB9, sC9]
  refine Step.p_move rfl _ rfl (.slice (some ⟨g2, 0, none⟩) N N) rfl ?_
  simp only [Act.put, sA9, sB9, sC9]
  refine Step.p_len rfl _ _ 5 rfl (_) (N) (N) rfl Tryz.underlying22 ?_
  simp only [Act.put, sA9, sB9, sC9]
  refine Step.p_move rfl _ rfl (.slice (some ⟨gb, 0, none⟩) N c) rfl ?_
  simp only [Act.put, sA9, sB9, sC9]
  refine Step.p_len rfl _ _ 5 rfl (_) (N) (c) rfl Tryz.underlying22 ?_
  simp only [Act.put, sA9, sB9, sC9]
  refine Step.p_val rfl (.bool false) (by unfold execOp; go_simp; try rfl) ?_
  simp only [Act.put, sA9, sB9, sC9]
  refine Step.p_pick rfl _ _ _ rfl false rfl (.bool false) rfl ?_
  simp only [Act.put, sA9, sB9, sC9]
  refine wpList_nil ?_
  have OW : Hid ((∀ p, p < N → p / 16 = j → fB p = putF fB j xn p) ↔ ∀ q, q < 16 → (blkF (fun j x => msk E (tt s N j) x) fB (N / 16)) (16 * j + q) = (blkF (fun j x => msk E (tt s N j) x) (putF fB j xn) (N / 16)) (16 * j + q)) := Lib.hid (blocks_own FL.out (by rw [HMD.out]; exact hjm) (fun a b ha hb h => EI.out _ a b ha hb h))
  have EL : Hid (∀ p, p < N → p / 16 ≠ j → (blkF (fun j x => msk E (tt s N j) x) fB (N / 16)) p = (blkF (fun j x => msk E (tt s N j) x) (putF fB j xn) (N / 16)) p) := Lib.hid (fun p hp h1 => blocks_else (by omega) h1)
  generalize (blkF (fun j x => msk E (tt s N j) x) fB (N / 16)) = U at *
  generalize (blkF (fun j x => msk E (tt s N j) x) (putF fB j xn) (N / 16)) = V at *
  generalize putF fB j xn = fZ at *
  clear EI
  go_wp2
  go_loopw [23, 22] (fun i b wr => ∃ p : Nat, p ≤ N ∧ i = .int .i64 p ∧ (∃ bb : Bool, b = .bool bb ∧ (bb = true ↔ ∀ q, q < p → q / 16 = j → fB q = fZ q)) ∧ Below w10.heap.size w10 wr) (fun i _ _ => N - (RowKit.intOf i).toNat)
  case atStart => exact ⟨0, by omega, rfl, ⟨true, rfl, by simp⟩, Below.refl _ _⟩
  case round =>
    obtain ⟨p, hp, rfl, ⟨bb, rfl, hbb⟩, hb⟩ := hrel
    have HB := Lib.hid hbb
    have BW := Lib.hid hb
    clear hbb hb
    go_upto_region 15 with fail
    refine wp_region_lit ?_
    refine Step.p_move rfl _ rfl (.int .i64 p) rfl ?_
    simp only [Act.put, sA9, sB9, sC9]
    refine Step.p_move rfl _ rfl (.slice (some ⟨gb, 0, none⟩) N c) rfl ?_
    simp only [Act.put, sA9, sB9, sC9]
    refine Step.p_len rfl _ _ 5 rfl (_) (N) (c) rfl Tryz.underlying22 ?_
    simp only [Act.put, sA9, sB9, sC9]
    refine Step.p_val rfl (.bool (decide (p < N))) (by unfold execOp; go_simp; try (first | rfl | omega | (by_cases h : p < N <;> simp [h] <;> omega))) ?_
    simp only [Act.put, sA9, sB9, sC9]
    refine wpList_nil ?_
    by_cases hlt : p < N
    · skip
      by_cases hpj : p / 16 = j
      · skip
        go_upto_region 17 with fail
        refine wp_region_lit ?_
        refine Step.p_move rfl _ rfl (.int .i64 p) rfl ?_
        simp only [Act.put, sA9, sB9, sC9]
        refine Step.p_val rfl (.int .i64 (p / 16 : Nat)) (by unfold execOp; go_simp; try (first | rfl | exact IntWalk.i64_in _ (by omega) | exact (IntWalk.i64_in _ (by omega)).trans (by omega))) ?_
        simp only [Act.put, sA9, sB9, sC9]
        refine Step.p_move rfl _ rfl (.int .i64 j) rfl ?_
        simp only [Act.put, sA9, sB9, sC9]
        refine Step.p_val rfl (.bool true) (by unfold execOp; go_simp; try (first | rfl | omega)) ?_
        simp only [Act.put, sA9, sB9, sC9]
        refine wpList_nil ?_
        cases bb
        case true =>
          go_upto_region 18 with fail
          refine Step.wp_region_class (C := fun w' => Below w10.heap.size w10 w') (by kernel_rfl) (by kernel_rfl) BW.out.drew ?_
          refine Step.q_move rfl _ rfl (.bool true) rfl ?_
          simp only [Act.put, sA9, sB9, sC9]
          refine Step.q_move rfl _ rfl (.bool true) rfl ?_
          simp only [Act.put, sA9, sB9, sC9]
          refine Step.q_move rfl _ rfl (.slice (some ⟨gb, 0, none⟩) N c) rfl ?_
          simp only [Act.put, sA9, sB9, sC9]
          refine Step.q_move rfl _ rfl (.int .i64 p) rfl ?_
          simp only [Act.put, sA9, sB9, sC9]
          refine Step.q_idx rfl _ 5 _ _ rfl gb 0 N c rfl p rfl hlt 1 Tryz.underlying22 (by kernel_rfl) ?_
          simp only [Act.put, sA9, sB9, sC9]
          try simp only [Nat.zero_add, Nat.mul_one]
          refine Step.q_load1 rfl _ _ rfl (gb) (p) rfl (.int .u8 (fB p : Nat)) (fun w' hw' => by exact cell_bel hw' (CB.out p hlt)) Tryz.underlying5 rfl ?_
          simp only [Act.put, sA9, sB9, sC9]
          refine Step.q_move rfl _ rfl (.slice (some ⟨zb, 0, none⟩) N zc) rfl ?_
          simp only [Act.put, sA9, sB9, sC9]
          refine Step.q_move rfl _ rfl (.int .i64 p) rfl ?_
          simp only [Act.put, sA9, sB9, sC9]
          refine Step.q_idx rfl _ 5 _ _ rfl zb 0 N zc rfl p rfl hlt 1 Tryz.underlying22 (by kernel_rfl) ?_
          simp only [Act.put, sA9, sB9, sC9]
          try simp only [Nat.zero_add, Nat.mul_one]
          refine Step.q_load1 rfl _ _ rfl (zb) (p) rfl (.int .u8 (fZ p : Nat)) (fun w' hw' => by exact (Z0.out.below hw').cell hlt) Tryz.underlying5 rfl ?_
          simp only [Act.put, sA9, sB9, sC9]
          refine Step.q_pure rfl (.bool (decide (fB p = fZ p))) (fun w' => by unfold execOp; go_simp; try (first | rfl | (by_cases h : fB p = fZ p <;> simp [h] <;> omega))) ?_
          simp only [Act.put, sA9, sB9, sC9]
          refine Step.q_pick rfl _ _ _ rfl true rfl (.bool (decide (fB p = fZ p))) rfl ?_
          simp only [Act.put, sA9, sB9, sC9]
          refine Step.q_assign rfl _ rfl (.bool (decide (fB p = fZ p))) rfl ?_
          simp only [Act.put, sA9, sB9, sC9]
          refine wpQuiet_nil ?_
          intro w12 hb12
          have HF := Lib.hid hb12
          clear hb12
          go_wp2
          exact ⟨⟨p + 1, by omega, by go_num, ⟨_, rfl, by simpa using all_step HB.out hpj⟩, HF.out⟩, by simp [RowKit.intOf]; try omega⟩
        case false =>
          go_upto_region 18 with fail
          refine Step.wp_region_class (C := fun w' => Below w10.heap.size w10 w') (by kernel_rfl) (by kernel_rfl) BW.out.drew ?_
          refine Step.q_move rfl _ rfl (.bool false) rfl ?_
          simp only [Act.put, sA9, sB9, sC9]
          refine Step.q_move rfl _ rfl (.bool false) rfl ?_
          simp only [Act.put, sA9, sB9, sC9]
          with_reducible refine Step.q_skip ?_ ?_
          · kernel_rfl
          simp only [Act.put, sA9, sB9, sC9]
          with_reducible refine Step.q_skip ?_ ?_
          · kernel_rfl
          simp only [Act.put, sA9, sB9, sC9]
          with_reducible refine Step.q_skip ?_ ?_
          · kernel_rfl
          simp only [Act.put, sA9, sB9, sC9]
          with_reducible refine Step.q_skip ?_ ?_
          · kernel_rfl
          simp only [Act.put, sA9, sB9, sC9]
          with_reducible refine Step.q_skip ?_ ?_
          · kernel_rfl
          simp only [Act.put, sA9, sB9, sC9]
          with_reducible refine Step.q_skip ?_ ?_
          · kernel_rfl
          simp only [Act.put, sA9, sB9, sC9]
          with_reducible refine Step.q_skip ?_ ?_
          · kernel_rfl
          simp only [Act.put, sA9, sB9, sC9]
          with_reducible refine Step.q_skip ?_ ?_
          · kernel_rfl
          simp only [Act.put, sA9, sB9, sC9]
          with_reducible refine Step.q_skip ?_ ?_
          · kernel_rfl
          simp only [Act.put, sA9, sB9, sC9]
          refine Step.q_pick rfl _ _ _ rfl false rfl (.bool false) rfl ?_
          simp only [Act.put, sA9, sB9, sC9]
          refine Step.q_assign rfl _ rfl (.bool false) rfl ?_
          simp only [Act.put, sA9, sB9, sC9]
          refine wpQuiet_nil ?_
          intro w12 hb12
          have HF := Lib.hid hb12
          clear hb12
          go_wp2
          exact ⟨⟨p + 1, by omega, by go_num, ⟨_, rfl, by simpa using all_step HB.out hpj⟩, HF.out⟩, by simp [RowKit.intOf]; try omega⟩
      · skip
        go_upto_region 17 with fail
        refine wp_region_lit ?_
        refine Step.p_move rfl _ rfl (.int .i64 p) rfl ?_
        simp only [Act.put, sA9, sB9, sC9]
        refine Step.p_val rfl (.int .i64 (p / 16 : Nat)) (by unfold execOp; go_simp; try (first | rfl | exact IntWalk.i64_in _ (by omega) | exact (IntWalk.i64_in _ (by omega)).trans (by omega))) ?_
        simp only [Act.put, sA9, sB9, sC9]
        refine Step.p_move rfl _ rfl (.int .i64 j) rfl ?_
        simp only [Act.put, sA9, sB9, sC9]
        refine Step.p_val rfl (.bool false) (by unfold execOp; go_simp; try (first | rfl | omega)) ?_
        simp only [Act.put, sA9, sB9, sC9]
        refine wpList_nil ?_
        go_upto_region 19 with fail
        refine Step.wp_region_class (C := fun w' => Below w10.heap.size w10 w') (by kernel_rfl) (by kernel_rfl) BW.out.drew ?_
        refine Step.q_move rfl _ rfl (.slice (some ⟨g1, 0, none⟩) N N) rfl ?_
        simp only [Act.put, sA9, sB9, sC9]
        refine Step.q_move rfl _ rfl (.int .i64 p) rfl ?_
        simp only [Act.put, sA9, sB9, sC9]
        refine Step.q_idx rfl _ 5 _ _ rfl g1 0 N N rfl p rfl hlt 1 Tryz.underlying22 (by kernel_rfl) ?_
        simp only [Act.put, sA9, sB9, sC9]
        try simp only [Nat.zero_add, Nat.mul_one]
        refine Step.q_load1 rfl _ _ rfl (g1) (p) rfl (.int .u8 (U p : Nat)) (fun w' hw' => by exact (U0.out.below hw').cell hlt) Tryz.underlying5 rfl ?_
        simp only [Act.put, sA9, sB9, sC9]
        refine Step.q_move rfl _ rfl (.slice (some ⟨g2, 0, none⟩) N N) rfl ?_
        simp only [Act.put, sA9, sB9, sC9]
        refine Step.q_move rfl _ rfl (.int .i64 p) rfl ?_
        simp only [Act.put, sA9, sB9, sC9]
        refine Step.q_idx rfl _ 5 _ _ rfl g2 0 N N rfl p rfl hlt 1 Tryz.underlying22 (by kernel_rfl) ?_
        simp only [Act.put, sA9, sB9, sC9]
        try simp only [Nat.zero_add, Nat.mul_one]
        refine Step.q_load1 rfl _ _ rfl (g2) (p) rfl (.int .u8 (V p : Nat)) (fun w' hw' => by exact (V0.out.below hw').cell hlt) Tryz.underlying5 rfl ?_
        simp only [Act.put, sA9, sB9, sC9]
        refine Step.q_pure rfl (.bool false) (fun w' => by unfold execOp; go_simp; try (first | rfl | simp [EL.out p hlt hpj] | (rw [EL.out p hlt hpj]; simp))) ?_
        simp only [Act.put, sA9, sB9, sC9]
        refine wpQuiet_nil ?_
        intro w12 hb12
        have HF := Lib.hid hb12
        clear hb12
        go_wp2
        exact ⟨⟨p + 1, by omega, by go_num, ⟨_, rfl, all_skip HB.out hpj⟩, HF.out⟩, by simp [RowKit.intOf]; try omega⟩
    · obtain rfl : p = N := by omega
      go_upto_region 22 with fail
      refine wp_region_lit ?_
      refine Step.p_move rfl _ rfl (.int .i64 j) rfl ?_
      simp only [Act.put, sA9, sB9, sC9]
      refine Step.p_val rfl (.int .i64 (16 * j : Nat)) (by unfold execOp; go_simp; try (first | rfl | omega | exact (IntWalk.i64_in _ (by omega)).trans (by omega) | exact IntWalk.i64_in _ (by omega))) ?_
      simp only [Act.put, sA9, sB9, sC9]
      refine Step.p_assign rfl _ rfl (.int .i64 (16 * j : Nat)) rfl ?_
      simp only [Act.put, sA9, sB9, sC9]
      refine wpList_nil ?_
      go_wp2
      go_loopw [25, 24] (fun i b wr => ∃ k : Nat, k ≤ 16 ∧ i = .int .i64 (16 * j + k : Nat) ∧ (∃ bb : Bool, b = .bool bb ∧ (bb = true ↔ ∀ q, q < k → U (16 * j + q) = V (16 * j + q))) ∧ Below w10.heap.size w10 wr) (fun i _ _ => (16 * j + 16) - (RowKit.intOf i).toNat)
      case atStart => exact ⟨0, by omega, rfl, ⟨true, rfl, by simp⟩, BW.out⟩
      case round =>
        obtain ⟨k, hk, rfl, ⟨b2, rfl, hbb⟩, hb⟩ := hrel
        have HB2 := Lib.hid hbb
        have BW2 := Lib.hid hb
        clear hbb hb
        go_upto_region 23 with fail
        refine wp_region_lit ?_
        refine Step.p_move rfl _ rfl (.int .i64 (16 * j + k : Nat)) rfl ?_
        simp only [Act.put, sA9, sB9, sC9]
        refine Step.p_move rfl _ rfl (.int .i64 j) rfl ?_
        simp only [Act.put, sA9, sB9, sC9]
        refine Step.p_val rfl (.int .i64 (16 * j : Nat)) (by unfold execOp; go_simp; try (first | rfl | omega | exact (IntWalk.i64_in _ (by omega)).trans (by omega) | exact IntWalk.i64_in _ (by omega))) ?_
        simp only [Act.put, sA9, sB9, sC9]
        refine Step.p_val rfl (.int .i64 (16 * j + 16 : Nat)) (by unfold execOp; go_simp; try (first | rfl | omega | exact (IntWalk.i64_in _ (by omega)).trans (by omega) | exact IntWalk.i64_in _ (by omega))) ?_
        simp only [Act.put, sA9, sB9, sC9]
        refine Step.p_val rfl (.bool (decide (k < 16))) (by unfold execOp; go_simp; try (first | rfl | omega | (by_cases h : k < 16 <;> simp [h] <;> omega))) ?_
        simp only [Act.put, sA9, sB9, sC9]
        refine wpList_nil ?_
        by_cases hl2 : k < 16
        · skip
          have hk2 : 16 * j + k < p := by omega
          cases b2
          case true =>
            go_upto_region 25 with fail
            refine Step.wp_region_class (C := fun w' => Below w10.heap.size w10 w') (by kernel_rfl) (by kernel_rfl) BW2.out.drew ?_
            refine Step.q_move rfl _ rfl (.bool true) rfl ?_
            simp only [Act.put, sA9, sB9, sC9]
            refine Step.q_move rfl _ rfl (.bool true) rfl ?_
            simp only [Act.put, sA9, sB9, sC9]
            refine Step.q_move rfl _ rfl (.slice (some ⟨g1, 0, none⟩) p p) rfl ?_
            simp only [Act.put, sA9, sB9, sC9]
            refine Step.q_move rfl _ rfl (.int .i64 (16 * j + k : Nat)) rfl ?_
            simp only [Act.put, sA9, sB9, sC9]
            refine Step.q_idx rfl _ 5 _ _ rfl g1 0 p p rfl (16 * j + k) rfl hk2 1 Tryz.underlying22 (by kernel_rfl) ?_
            simp only [Act.put, sA9, sB9, sC9]
            try simp only [Nat.zero_add, Nat.mul_one]
            refine Step.q_load1 rfl _ _ rfl (g1) (16 * j + k) rfl (.int .u8 (U (16 * j + k) : Nat)) (fun w' hw' => by exact (U0.out.below hw').cell hk2) Tryz.underlying5 rfl ?_
            simp only [Act.put, sA9, sB9, sC9]
            refine Step.q_move rfl _ rfl (.slice (some ⟨g2, 0, none⟩) p p) rfl ?_
            simp only [Act.put, sA9, sB9, sC9]
            refine Step.q_move rfl _ rfl (.int .i64 (16 * j + k : Nat)) rfl ?_
            simp only [Act.put, sA9, sB9, sC9]
            refine Step.q_idx rfl _ 5 _ _ rfl g2 0 p p rfl (16 * j + k) rfl hk2 1 Tryz.underlying22 (by kernel_rfl) ?_
            simp only [Act.put, sA9, sB9, sC9]
            try simp only [Nat.zero_add, Nat.mul_one]
            refine Step.q_load1 rfl _ _ rfl (g2) (16 * j + k) rfl (.int .u8 (V (16 * j + k) : Nat)) (fun w' hw' => by exact (V0.out.below hw').cell hk2) Tryz.underlying5 rfl ?_
            simp only [Act.put, sA9, sB9, sC9]
            refine Step.q_pure rfl (.bool (decide (U (16 * j + k) = V (16 * j + k)))) (fun w' => by unfold execOp; go_simp; try (first | rfl | (by_cases h : U (16 * j + k) = V (16 * j + k) <;> simp [h] <;> omega))) ?_
            simp only [Act.put, sA9, sB9, sC9]
            refine Step.q_pick rfl _ _ _ rfl true rfl (.bool (decide (U (16 * j + k) = V (16 * j + k)))) rfl ?_
            simp only [Act.put, sA9, sB9, sC9]
            refine Step.q_assign rfl _ rfl (.bool (decide (U (16 * j + k) = V (16 * j + k)))) rfl ?_
            simp only [Act.put, sA9, sB9, sC9]
            refine wpQuiet_nil ?_
            intro w12 hb12
            have HF := Lib.hid hb12
            clear hb12
            go_wp2
            exact ⟨⟨k + 1, by omega, by go_num, ⟨_, rfl, by simpa using two_step HB2.out⟩, HF.out⟩, by simp [RowKit.intOf]; try omega⟩
          case false =>
            go_upto_region 25 with fail
            refine Step.wp_region_class (C := fun w' => Below w10.heap.size w10 w') (by kernel_rfl) (by kernel_rfl) BW2.out.drew ?_
            refine Step.q_move rfl _ rfl (.bool false) rfl ?_
            simp only [Act.put, sA9, sB9, sC9]
            refine Step.q_move rfl _ rfl (.bool false) rfl ?_
            simp only [Act.put, sA9, sB9, sC9]
            with_reducible refine Step.q_skip ?_ ?_
            · kernel_rfl
            simp only [Act.put, sA9, sB9, sC9]
            with_reducible refine Step.q_skip ?_ ?_
            · kernel_rfl
            simp only [Act.put, sA9, sB9, sC9]
            with_reducible refine Step.q_skip ?_ ?_
            · kernel_rfl
            simp only [Act.put, sA9, sB9, sC9]
            with_reducible refine Step.q_skip ?_ ?_
            · kernel_rfl
            simp only [Act.put, sA9, sB9, sC9]
            with_reducible refine Step.q_skip ?_ ?_
            · kernel_rfl
            simp only [Act.put, sA9, sB9, sC9]
            with_reducible refine Step.q_skip ?_ ?_
            · kernel_rfl
            simp only [Act.put, sA9, sB9, sC9]
            with_reducible refine Step.q_skip ?_ ?_
            · kernel_rfl
            simp only [Act.put, sA9, sB9, sC9]
            with_reducible refine Step.q_skip ?_ ?_
            · kernel_rfl
            simp only [Act.put, sA9, sB9, sC9]
            with_reducible refine Step.q_skip ?_ ?_
            · kernel_rfl
            simp only [Act.put, sA9, sB9, sC9]
            refine Step.q_pick rfl _ _ _ rfl false rfl (.bool false) rfl ?_
            simp only [Act.put, sA9, sB9, sC9]
            refine Step.q_assign rfl _ rfl (.bool false) rfl ?_
            simp only [Act.put, sA9, sB9, sC9]
            refine wpQuiet_nil ?_
            intro w12 hb12
            have HF := Lib.hid hb12
            clear hb12
            go_wp2
            exact ⟨⟨k + 1, by omega, by go_num, ⟨_, rfl, by simpa using two_step HB2.out⟩, HF.out⟩, by simp [RowKit.intOf]; try omega⟩
        · obtain rfl : k = 16 := by omega
          have hbx : bb = b2 := by rw [Bool.eq_iff_iff, HB.out, HB2.out]; exact OW.out
          go_upto_region 26 with fail
          refine wp_region_lit ?_
          refine Step.p_move rfl _ rfl (.bool bb) rfl ?_
          simp only [Act.put, sA9, sB9, sC9]
          refine Step.p_move rfl _ rfl (.bool b2) rfl ?_
          simp only [Act.put, sA9, sB9, sC9]
          refine Step.p_val rfl (.bool true) (by unfold execOp; go_simp; try (first | rfl | simp [hbx] | (rw [hbx]; simp))) ?_
          simp only [Act.put, sA9, sB9, sC9]
          refine Step.p_assign rfl _ rfl (.bool true) rfl ?_
          simp only [Act.put, sA9, sB9, sC9]
          refine wpList_nil ?_
          go_wp2
          go_ret
          exact ⟨rfl, B0.out.trans (BW2.out.mono B0.out.size)⟩
end Go.Proofs.YtmifebcaifbmoaaGreatDoor.TBlocks
end
