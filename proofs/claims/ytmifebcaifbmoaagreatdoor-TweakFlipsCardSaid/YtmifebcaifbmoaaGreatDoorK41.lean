/- Parts of the proof of TweakFlips. Flips: cofferlaw03.TweakFlips, walked. -/
import Derived.Test.YtmifebcaifbmoaaGreatDoorK40
import Derived.Test.YtmifebcaifbmoaaGreatDoorK29
import Derived.Test.YtmifebcaifbmoaaGreatDoorK28
/- Flips -/
section
namespace Go.Proofs.YtmifebcaifbmoaaGreatDoor.TFlips
open Go.RowKit Go.Lib Go.Proofs.YtmifebcaifbmoaaGreatDoor.Blk Go.Proofs.YtmifebcaifbmoaaGreatDoor.Aes Go.Proofs.YtmifebcaifbmoaaGreatDoor.Tab Go.Proofs.YtmifebcaifbmoaaGreatDoor.Byts Go.Proofs.YtmifebcaifbmoaaGreatDoor.Push Go.Proofs.YtmifebcaifbmoaaGreatDoor.Poly Go.Proofs.YtmifebcaifbmoaaGreatDoor.Field Go.Proofs.YtmifebcaifbmoaaGreatDoor.Tw Go.Proofs.YtmifebcaifbmoaaGreatDoor.G
section
variable {P : Program} {a : Act} {w : World} {o : Oper} {K : Act → World → Prop} {Q : Exit → Act → World → Prop}
theorem w_lit7 (t e : TypeId) (x0 x1 x2 x3 x4 x5 x6 : Operand) (ho : o.op = .buildSlice t 7 #[(0, x0), (1, x1), (2, x2), (3, x3), (4, x4), (5, x5), (6, x6)]) (k : IntKind) (c0 c1 c2 c3 c4 c5 c6 : Int) (e0 : a.eval x0 = .int k c0) (e1 : a.eval x1 = .int k c1) (e2 : a.eval x2 = .int k c2) (e3 : a.eval x3 = .int k c3) (e4 : a.eval x4 = .int k c4) (e5 : a.eval x5 = .int k c5) (e6 : a.eval x6 = .int k c6)
    (hu : P.underlying t = some (.slice e)) {ie : TypeInfo} {z : Value} (hie : P.info? e = some ie) (hz : ie.zero = some z) (hs : ie.size = 1)
    (h : K (a.put o.dst (.slice (some ⟨w.heap.size, 0, none⟩) 7 7)) (w.alloc (.cells #[.int k c0, .int k c1, .int k c2, .int k c3, .int k c4, .int k c5, .int k c6] e))) : o.wp P a w K Q := by
  refine wp_buildSlice t e 7 _ ho _ ie z hu hie hz (by rw [hs]; decide) (by rw [hs]; decide) ?_ h
  simp only [List.map_toArray, List.map_cons, List.map_nil, e0, e1, e2, e3, e4, e5, e6, hs]
  have := Great.fill_whole (s := 1) (by decide) [.int k c0, .int k c1, .int k c2, .int k c3, .int k c4, .int k c5, .int k c6] ((Array.range (7 * 1)).map (z.cells[· % z.cells.size]!)) (fun v hv => by
    simp only [List.mem_cons, List.not_mem_nil, or_false] at hv
    rcases hv with rfl | rfl | rfl | rfl | rfl | rfl | rfl <;> rfl) (by simp)
  simpa [Value.cells] using this
end
theorem int_info : ∃ i, Tryz.prog.info? 3 = some i ∧ i.zero = some (.int .i64 0) ∧ i.size = 1 ∧ i.bytes = 8 := info_parts' (by kernel_rfl)

def kL (j : Nat) : Nat := 2 + j
theorem fitF_lt {n : Nat} {f : Nat → Nat} (hf : ∀ j, f j < 256) (j : Nat) : fitF n f j < 256 := by
  unfold fitF
  split
  · exact Nat.mod_lt _ (by decide)
  · exact hf _
theorem fitN_16 (z : Int) : fitN z true % 16 = 0 := by
  unfold fitN
  rw [if_pos rfl]
  omega
theorem sec_of {w : World} {g n : Nat} {f : Nat → Nat} {cur : Array Value} (h4 : w.heap[g]? = some (.cells cur 5 (0, 0))) (h : ∀ j, j < n → w.cell? ⟨g, j, none⟩ = some (.int .u8 (f j : Nat))) : Sec w g n f := by
  have hc : ∀ i, i < n → cur[i]? = some (.int .u8 (f i : Nat)) := fun i hi => by rw [← h i hi, cell_of_row w g i _ _ _ h4]
  refine ⟨cur, h4, ?_, hc⟩
  rcases Nat.lt_or_ge cur.size n with h5 | h5
  · have := hc cur.size h5
    simp at this
  · exact h5
/-- one more byte of the block is turned -/
theorem sec_turn {w w' : World} {g n : Nat} {f X : Nat → Nat} {j k : Nat} (h : Sec w g n (turnF f X j k)) {cs : Array Value} (h0 : w.heap[g]? = some (.cells cs 5 (0, 0))) (h1 : w'.heap[g]? = some (.cells (cs.setIfInBounds (16 * j + k) (.int .u8 (f (16 * j + k) ^^^ X k : Nat))) 5 (0, 0))) : Sec w' g n (turnF f X j (k + 1)) := by
  obtain ⟨cur, c1, c2, c3⟩ := h
  rw [h0] at c1
  cases c1
  refine ⟨_, h1, by simpa using c2, fun i hi => ?_⟩
  rw [Array.getElem?_setIfInBounds]
  by_cases e : 16 * j + k = i
  · subst e
    rw [if_pos rfl, if_pos (by omega)]
    unfold turnF
    rw [if_pos (by omega), show 16 * j + k - 16 * j = k by omega]
  · rw [if_neg e, c3 i hi]
    unfold turnF
    by_cases h2 : 16 * j ≤ i ∧ i < 16 * j + k
    · rw [if_pos h2, if_pos (by omega)]
    · rw [if_neg h2, if_neg (by omega)]
theorem sec_bl0 {w : World} {g n : Nat} {f : Nat → Nat} (h : Sec w g n f) : BL w (some ⟨g, 0, none⟩) n f := fun i hi => ⟨g, 0, rfl, by rw [Nat.zero_add]; exact h.cell hi⟩
theorem zero_iff {xn : Nat} (h : xn < 2 ^ 128) : (∀ i, i < 16 → byt xn i = 0) ↔ xn = 0 := by
  constructor
  · intro h1
    exact num_ext h (by decide) fun i hi => by rw [h1 i hi]; unfold byt; rw [Nat.zero_div]
  · rintro rfl i _
    unfold byt
    rw [Nat.zero_div]
/-- one more byte of the own block, or of another one -/
theorem all_step {U V : Nat → Nat} {j p : Nat} {b : Bool} (h : b = true ↔ ∀ q, q < p → q / 16 = j → U q = V q) (hj : p / 16 = j) : (b && decide (U p = V p)) = true ↔ ∀ q, q < p + 1 → q / 16 = j → U q = V q := by
  rw [Bool.and_eq_true, decide_eq_true_eq, h]
  constructor
  · rintro ⟨h1, h2⟩ q hq hqj
    rcases Nat.lt_or_ge q p with h3 | h3
    · exact h1 q h3 hqj
    · obtain rfl : q = p := by omega
      exact h2
  · intro h1
    exact ⟨fun q hq => h1 q (by omega), h1 p (by omega) hj⟩
theorem all_skip {U V : Nat → Nat} {j p : Nat} {b : Bool} (h : b = true ↔ ∀ q, q < p → q / 16 = j → U q = V q) (hj : p / 16 ≠ j) : b = true ↔ ∀ q, q < p + 1 → q / 16 = j → U q = V q := by
  rw [h]
  constructor
  · intro h1 q hq hqj
    exact h1 q (by rcases Nat.lt_or_ge q p with h3 | h3; · exact h3
                   · obtain rfl : q = p := by omega
                     exact absurd hqj hj) hqj
  · intro h1 q hq
    exact h1 q (by omega)
section
variable {P : Program} {ops : Array Oper} {Q : Exit → Act → World → Prop} {o : Oper} {rest : List Oper} {a : Act} {w : World}
theorem p_eq16 (hg : Region.wanted o (yielded ops a.tmps) = true) (t r : TypeId) (x y : Operand) (ho : o.op = .binOp .eql t x y r) (m n : Nat) (hx : a.eval x = A16 fun i => (byt m i : Int)) (hy : a.eval y = A16 fun i => (byt n i : Int))
    {e : TypeId} (hu : P.underlying t = some (.array 16 e)) (he : P.underlying e = some (.int .u8)) (hs : P.cellsOf e = 1) (hq : P.eqGuardType P.depth t = false) (hm : m < 2 ^ 128) (hn : n < 2 ^ 128) (c : Bool) (hc : (m == n) = c)
    (h : wpList P ops Q rest (a.put o.dst (.bool c)) w) : wpList P ops Q (o :: rest) a w :=
  Step.p_val hg (.bool c) (by
    unfold execOp; rw [ho]
    simp only [hx, hy, Sem.run_bind, run_eqGuard_agg w .eql t x y _ _ hq, Result.andThen_ok, Eqs.run_eql16 w hu he hs m n hm hn, hc, Sem.run_pure]) h
end
set_option maxRecDepth 100000 in
set_option maxHeartbeats 8000000 in
theorem law_any (z nz jz : Int) (hz : IntKind.i64.has z) (hnz : IntKind.i64.has nz) (s : Nat) (hs : s < 2 ^ 64) (q : Option Addr) (n cap : Nat) (fk : Nat → Nat) (hfk : ∀ j, fk j < 256) (bq : Option Addr) (bn bcap : Nat) (fb : Nat → Nat) (hfb : ∀ j, fb j < 256) (xn : Nat) (hxn0 : xn < 2 ^ 128) (w : World) (hV : Vars w)
    (hB : BL w q n fk) (hnc : n ≤ cap) (hcm : cap ≤ 9223372036854775807) (hB2 : BL w bq bn fb) (hnc2 : bn ≤ bcap) (hcm2 : bcap ≤ 9223372036854775807) :
    Calls Tryz.prog 4 #[pickV z q n cap, .int .u64 s, .slice bq bn bcap, .int .i64 nz, .int .i64 jz, B16 xn] w fun e w' => e = .returned (.bool true) ∧ Below w.heap.size w w' := by
  have hrl : 2 < w.heap.size := Frame.block_lt (hV.r 0 (by decide))
  have hi0 : nnP z / 7 % 3 < 3 := Nat.mod_lt _ (by decide)
  have hk0 : nnP z % 7 < 7 := Nat.mod_lt _ (by decide)
  have OF := Lib.hid (fun g w' hc => of_any kL 7 (by decide) (by decide) (fun j hj => by unfold kL; omega) z hz q n cap g 7 w' hc)
  obtain ⟨i0, hie⟩ : ∃ i0, nnP z / 7 % 3 = i0 := ⟨_, rfl⟩
  obtain ⟨k0, hke⟩ : ∃ k0, nnP z % 7 = k0 := ⟨_, rfl⟩
  have EO : ofN kL 7 z = 1 + 17 * i0 + (1 + k0) := by
    unfold ofN kL
    rw [hie, hke]
    omega
  rw [EO] at OF
  rw [hie] at hi0
  rw [hke] at hk0
  have MD : Hid (∀ w', Below w.heap.size w w' → Calls Tryz.prog 11 #[pickV ((1 + 17 * i0 + (1 + k0) : Nat) : Int) q n cap] w' fun e w2 => ∃ cb rb, e = .returned (.tuple #[.pointer (some ⟨cb, 0, none⟩), .pointer (some ⟨rb, 0, none⟩), .bool true]) ∧ PrC (keyD (keyF n fk) (4 + 2 * i0)) cb w2 ∧ Below w'.heap.size w' w2) := Lib.hid fun w' b => by
    rcases (show k0 = 0 ∨ k0 = 1 ∨ k0 = 2 ∨ k0 = 3 ∨ k0 = 4 ∨ k0 = 5 ∨ k0 = 6 by omega) with rfl | rfl | rfl | rfl | rfl | rfl | rfl
    · exact madeC1 i0 hi0 q n cap fk hfk w' (hV.below b) (hB.below b) hnc hcm
    · exact madeC2 i0 hi0 q n cap fk hfk w' (hV.below b) (hB.below b) hnc hcm
    · exact madeC3 i0 hi0 q n cap fk hfk w' (hV.below b) (hB.below b) hnc hcm
    · exact madeC4 i0 hi0 q n cap fk hfk w' (hV.below b) (hB.below b) hnc hcm
    · exact madeC5 i0 hi0 q n cap fk hfk w' (hV.below b) (hB.below b) hnc hcm
    · exact madeC6 i0 hi0 q n cap fk hfk w' (hV.below b) (hB.below b) hnc hcm
    · exact madeC7 i0 hi0 q n cap fk hfk w' (hV.below b) (hB.below b) hnc hcm
  have FT := Lib.hid (fun w' (b : Below w.heap.size w w') => fit_any bq bn bcap fb nz hnz true w' (hB2.below b) hnc2 hcm2)
  have FL := Lib.hid (fitF_lt (n := bn) hfb)
  have PK := Lib.hid (PrC.kp (D := keyD (keyF n fk) (4 + 2 * i0)))
  have DL : Hid (∀ x, keyD (keyF n fk) (4 + 2 * i0) x < 2 ^ 128) := Lib.hid (fun x => keyD_lt (fun j _ => keyF_lt hfk j) (by omega) x)
  have DI : Hid (∀ a b, a < 2 ^ 128 → b < 2 ^ 128 → keyD (keyF n fk) (4 + 2 * i0) a = keyD (keyF n fk) (4 + 2 * i0) b → a = b) := Lib.hid (fun a b ha hb h => keyD_inj (fun j _ => keyF_lt hfk j) (by omega) ha hb h)
  obtain ⟨F1, F2⟩ := fitN_bd nz true
  have F3 := fitN_16 nz
  clear hV hB hB2 EO hfk hfb hz hnz hie hke hi0 hk0
  unfold pickV at *
  generalize (1 + 17 * i0 + (1 + k0) : Nat) = t at *
  generalize keyD (keyF n fk) (4 + 2 * i0) = D at *
  generalize fitN nz true = N at *
  generalize fitF bn fb = fB at *
  go_enter Tryz.func4, Tryz.ntmps4
  go_upto_region 0 with fail
  refine wp_region_lit ?_
  refine Seg.p_boxA rfl 24 _ rfl #[.int .i64 z, .slice q n cap] rfl ?_
  simp only [Act.put, List.setIfInBounds_toArray, List.set_cons_zero, List.set_cons_succ]
  refine New.p_box rfl 27 _ rfl .u8 16 (fun i => ((byt xn i : Nat) : Int)) rfl ?_
  intro w1 a1 g1 s1
  simp only [Act.put, List.setIfInBounds_toArray, List.set_cons_zero, List.set_cons_succ]
  have hxn : (w.alloc (.cells #[.int .i64 z, .slice q n cap] 24)).heap.size ≠ w.heap.size := by simp
  have P0 := Lib.hid ((pkv_new z q n cap w).next (Rj.bel_of_gb (_B := 0) g1))
  have X0 := Lib.hid a1
  clear a1 g1 s1
  generalize (w.alloc (.cells #[.int .i64 z, .slice q n cap] 24)).heap.size = xb at *
  refine Step.p_assign rfl _ rfl (.bool false) rfl ?_
  simp only [Act.put, List.setIfInBounds_toArray, List.set_cons_zero, List.set_cons_succ]
  refine wpList_nil ?_
  go_upto_region 1 with fail
  refine wp_region_lit ?_
  refine Tree.p_loadrow rfl _ _ rfl (w.heap.size) rfl (P0.out.p) Tryz.underlying24 rfl (by kernel_rfl) ?_
  simp only [Act.put, List.setIfInBounds_toArray, List.set_cons_zero, List.set_cons_succ]
  obtain ⟨iI, hI1, hI2, hI3, _⟩ := int_info
  refine Step.p_wp rfl (w_lit7 _ _ _ _ _ _ _ _ _ rfl .i64 2 3 4 5 6 7 8 rfl rfl rfl rfl rfl rfl rfl Tryz.underlying29 hI1 hI2 hI3 ?_)
  simp only [Act.put, List.setIfInBounds_toArray, List.set_cons_zero, List.set_cons_succ]
  have X1 := Lib.hid (X0.out.alloc (.cells #[.int .i64 2, .int .i64 3, .int .i64 4, .int .i64 5, .int .i64 6, .int .i64 7, .int .i64 8] 3))
  clear X0
  have P1 := Lib.hid (P0.out.alloc (.cells #[.int .i64 2, .int .i64 3, .int .i64 4, .int .i64 5, .int .i64 6, .int .i64 7, .int .i64 8] 3))
  have hck : ∀ j, j < 7 → (w1.alloc (.cells #[.int .i64 2, .int .i64 3, .int .i64 4, .int .i64 5, .int .i64 6, .int .i64 7, .int .i64 8] 3)).cell? ⟨w1.heap.size, j, none⟩ = some (.int .i64 ((kL j : Nat) : Int)) := fun j hj => by
    rw [cell_of_row _ _ _ _ _ _ (heap_alloc_new w1 _)]
    match j, hj with
    | 0, _ => rfl
    | 1, _ => rfl
    | 2, _ => rfl
    | 3, _ => rfl
    | 4, _ => rfl
    | 5, _ => rfl
    | 6, _ => rfl
    | m + 7, hm => exact absurd hm (by omega)
  have H1 := Lib.hid (OF.out w1.heap.size (w1.alloc (.cells #[.int .i64 2, .int .i64 3, .int .i64 4, .int .i64 5, .int .i64 6, .int .i64 7, .int .i64 8] 3)) hck)
  clear hck
  generalize (w1.alloc (.cells #[.int .i64 2, .int .i64 3, .int .i64 4, .int .i64 5, .int .i64 6, .int .i64 7, .int .i64 8] 3)) = w2 at *
  clear P0 OF
  refine Step.p_wp rfl (Step.w_callx 10 [.tmp 25, .tmp 26] _ rfl Tryz.func10 (by kernel_rfl) rfl [.agg #[.int .i64 z, .slice q n cap], .slice (some ⟨w1.heap.size, 0, none⟩) 7 7] rfl (H1.out) ?_)
  rintro e w3 ⟨rfl, hb⟩
  refine ⟨_, rfl, ?_⟩
  simp only [Act.put, List.setIfInBounds_toArray, List.set_cons_zero, List.set_cons_succ]
  have X2 := Lib.hid (Rj.bel_arr (_B := 0) X1.out hb)
  clear X1
  have P2 := Lib.hid (P1.out.next hb)
  clear hb P1 H1
  refine Cell.p_storerow rfl 24 _ _ rfl w.heap.size rfl #[.int .i64 (t : Nat), .slice q n cap] rfl (by kernel_rfl) (by simp [Value.oneCell']) P2.out.p rfl ?_
  intro w4 hr4 hg4 _
  simp only [Act.put]
  refine wpList_nil ?_
  have P3 : Hid (PkV (t : Nat) q n cap w.heap.size w w4) := Lib.hid ⟨hr4, P2.out.bel.grown hg4 P2.out.bel.size (fun j hj => by cases hj; exact Nat.le_refl _)⟩
  have X3 := Lib.hid (X2.out.grown hg4 hxn)
  clear X2
  clear hr4 hg4 P2
  go_upto_region 2 with fail
  refine wp_region_lit ?_
  refine Tree.p_loadrow rfl _ _ rfl (w.heap.size) rfl (P3.out.p) Tryz.underlying24 rfl (by kernel_rfl) ?_
  simp only [Act.put, List.setIfInBounds_toArray, List.set_cons_zero, List.set_cons_succ]
  refine Step.p_wp rfl (Step.w_callx 11 [.tmp 29] _ rfl Tryz.func11 (by kernel_rfl) rfl [.agg #[.int .i64 (t : Nat), .slice q n cap]] rfl (MD.out w4 P3.out.bel) ?_)
  rintro e w5 ⟨cb, rb, rfl, hci, hb⟩
  refine ⟨_, rfl, ?_⟩
  simp only [Act.put, List.setIfInBounds_toArray, List.set_cons_zero, List.set_cons_succ]
  have X5 := Lib.hid (Rj.bel_arr (_B := 0) X3.out hb)
  clear X3
  have B5 := Lib.hid (P3.out.bel.trans (hb.mono P3.out.bel.size))
  have C5 := Lib.hid hci
  clear hb hci P3 MD
  refine Step.p_move rfl _ rfl (.tuple #[.pointer (some ⟨cb, 0, none⟩), .pointer (some ⟨rb, 0, none⟩), .bool true]) rfl ?_
  simp only [Act.put, List.setIfInBounds_toArray, List.set_cons_zero, List.set_cons_succ]
  refine Step.p_val rfl (.pointer (some ⟨cb, 0, none⟩)) (by unfold execOp; go_simp; try rfl) ?_
  simp only [Act.put, List.setIfInBounds_toArray, List.set_cons_zero, List.set_cons_succ]
  refine Step.p_val rfl (.pointer (some ⟨rb, 0, none⟩)) (by unfold execOp; go_simp; try rfl) ?_
  simp only [Act.put, List.setIfInBounds_toArray, List.set_cons_zero, List.set_cons_succ]
  refine Step.p_val rfl (.bool true) (by unfold execOp; go_simp; try rfl) ?_
  simp only [Act.put, List.setIfInBounds_toArray, List.set_cons_zero, List.set_cons_succ]
  refine Step.p_assign rfl _ rfl (.pointer (some ⟨cb, 0, none⟩)) rfl ?_
  simp only [Act.put, List.setIfInBounds_toArray, List.set_cons_zero, List.set_cons_succ]
  refine Step.p_assign rfl _ rfl (.pointer (some ⟨rb, 0, none⟩)) rfl ?_
  simp only [Act.put, List.setIfInBounds_toArray, List.set_cons_zero, List.set_cons_succ]
  refine Step.p_assign rfl _ rfl (.bool true) rfl ?_
  simp only [Act.put, List.setIfInBounds_toArray, List.set_cons_zero, List.set_cons_succ]
  refine wpList_nil ?_
  go_upto_region 5 with fail
  refine wp_region_lit ?_
  refine Step.p_move rfl _ rfl (.slice bq bn bcap) rfl ?_
  simp only [Act.put, List.setIfInBounds_toArray, List.set_cons_zero, List.set_cons_succ]
  refine Step.p_move rfl _ rfl (.int .i64 nz) rfl ?_
  simp only [Act.put, List.setIfInBounds_toArray, List.set_cons_zero, List.set_cons_succ]
  refine Step.p_wp rfl (Step.w_callx 12 [.tmp 36, .tmp 37, .const (.bool true)] _ rfl Tryz.func12 (by kernel_rfl) rfl [.slice bq bn bcap, .int .i64 nz, .bool true] rfl (FT.out w5 B5.out) ?_)
  rintro e w6 ⟨v, rfl, ho, hb⟩
  refine ⟨_, rfl, ?_⟩
  simp only [Act.put, List.setIfInBounds_toArray, List.set_cons_zero, List.set_cons_succ]
  have X6 := Lib.hid (Rj.bel_arr (_B := 0) X5.out hb)
  clear X5
  obtain ⟨gb, c, rfl, x1, x2, x3, x4⟩ := ho
  have BB : Hid (BL w6 (some ⟨gb, 0, none⟩) N fB) := Lib.hid (fun i hi => ⟨gb, 0, rfl, by rw [Nat.zero_add]; exact x4 i hi⟩)
  have hgb : w5.heap.size ≤ gb := x1
  have B6 := Lib.hid (B5.out.trans (hb.mono B5.out.size))
  have C6 := Lib.hid (PK.out _ _ _ C5.out (Kp.of_below hb))
  have x2c := x2
  have x3c := x3
  clear hb x4 x1 x2 x3 C5 FT
  refine Step.p_assign rfl _ rfl (.slice (some ⟨gb, 0, none⟩) N c) rfl ?_
  simp only [Act.put, List.setIfInBounds_toArray, List.set_cons_zero, List.set_cons_succ]
  refine wpList_nil ?_
  obtain ⟨kk, iv, SS, hC⟩ := C6.out
  have CG := Lib.hid hC
  clear hC C6
  obtain ⟨m, hm⟩ : ∃ m, N / 16 = m := ⟨_, rfl⟩
  have hm1 : 1 ≤ m ∧ m ≤ 32 := by omega
  have hNm : N = 16 * m := by omega
  have HM : Hid ((N : Int).tdiv 16 = (m : Nat)) := Lib.hid (by rw [← hm]; rfl)
  have HNM := Lib.hid hNm
  have HMD := Lib.hid hm
  clear hNm hm
  obtain ⟨j, hj⟩ : ∃ j, (jz % 18446744073709551616).toNat % m = j := ⟨_, rfl⟩
  have hjm : j < m := by rw [← hj]; exact Nat.mod_lt _ (by omega)
  have HJ : Hid ((jz % 18446744073709551616).tmod (m : Int) = (j : Nat)) := Lib.hid (by rw [← hj, Int.tmod_eq_emod_of_nonneg (by omega), Int.natCast_emod, Int.toNat_of_nonneg (by omega)])
  have hm0 : ¬ ((m : Int) = 0) := by omega
  clear hj
  go_upto_region 6 with fail
  refine wp_region_lit ?_
  refine Step.p_move rfl _ rfl (.int .i64 jz) rfl ?_
  simp only [Act.put, List.setIfInBounds_toArray, List.set_cons_zero, List.set_cons_succ]
  refine Step.p_val rfl (.int .u64 (jz % 18446744073709551616)) (by unfold execOp; go_simp; exact IntKind.wrap_u64 jz) ?_
  simp only [Act.put, List.setIfInBounds_toArray, List.set_cons_zero, List.set_cons_succ]
  refine Step.p_move rfl _ rfl (.slice (some ⟨gb, 0, none⟩) N c) rfl ?_
  simp only [Act.put, List.setIfInBounds_toArray, List.set_cons_zero, List.set_cons_succ]
  refine Step.p_len rfl _ _ 5 rfl (_) (N) (c) rfl Tryz.underlying22 ?_
  simp only [Act.put, List.setIfInBounds_toArray, List.set_cons_zero, List.set_cons_succ]
  refine Step.p_val rfl (.int .i64 m) (by unfold execOp; have := HM.out; have := HNM.out; go_simp; try (first | omega | exact (IntWalk.i64_in _ (by omega)).trans (by omega))) ?_
  simp only [Act.put, List.setIfInBounds_toArray, List.set_cons_zero, List.set_cons_succ]
  refine Step.p_val rfl (.int .u64 m) (by unfold execOp; go_simp; try (exact (IntWalk.u64_in _ (by omega)).trans (by omega))) ?_
  simp only [Act.put, List.setIfInBounds_toArray, List.set_cons_zero, List.set_cons_succ]
  refine Step.p_val rfl (.int .u64 j) (by unfold execOp; have := HJ.out; go_simp; try (first | omega | (rw [if_neg hm0, HJ.out]) | trace_state)) ?_
  simp only [Act.put, List.setIfInBounds_toArray, List.set_cons_zero, List.set_cons_succ]
  refine Step.p_val rfl (.int .i64 j) (by unfold execOp; go_simp; try (exact IntWalk.i64_in _ (by omega))) ?_
  simp only [Act.put, List.setIfInBounds_toArray, List.set_cons_zero, List.set_cons_succ]
  refine Step.p_assign rfl _ rfl (.int .i64 j) rfl ?_
  simp only [Act.put, List.setIfInBounds_toArray, List.set_cons_zero, List.set_cons_succ]
  refine wpList_nil ?_
  go_upto_region 7 with fail
  refine wp_region_lit ?_
  refine Step.p_move rfl _ rfl (.slice (some ⟨gb, 0, none⟩) N c) rfl ?_
  simp only [Act.put, List.setIfInBounds_toArray, List.set_cons_zero, List.set_cons_succ]
  refine Step.p_wp rfl (Step.w_callx 13 [.tmp 47] _ rfl Tryz.func13 (by kernel_rfl) rfl [.slice (some ⟨gb, 0, none⟩) N c] rfl (bytes_any (some ⟨gb, 0, none⟩) N c fB w6 (by omega) x2c (fun h => by cases h) BB.out) ?_)
  rintro e w7 ⟨zb, zc, rfl, hzg, hz1, hz2, hz3, hb, cur, hz4⟩
  refine ⟨_, rfl, ?_⟩
  simp only [Act.put, List.setIfInBounds_toArray, List.set_cons_zero, List.set_cons_succ]
  have Z7 : Hid (Sec w7 zb N fB) := Lib.hid (sec_of hz4 fun i hi => by rw [hz3 i (by omega), row_get _ _ _ _ hi])
  have B7 := Lib.hid hb
  have hxz : xb < w6.heap.size := X6.out.lt
  have hzc : N ≤ zc ∧ zc ≤ 9223372036854775807 := ⟨by omega, by unfold maxLen at hz2; omega⟩
  clear hb hz3 hz4 cur hz1 hz2
  refine Step.p_assign rfl _ rfl (.slice (some ⟨zb, 0, none⟩) N zc) rfl ?_
  simp only [Act.put, List.setIfInBounds_toArray, List.set_cons_zero, List.set_cons_succ]
  refine wpList_nil ?_
  go_wp2
  go_loopw [18] (fun i wr => ∃ k : Nat, k ≤ 16 ∧ i = .int .i64 k ∧ Sec wr zb N (turnF fB (byt xn) j k) ∧ Below w6.heap.size w6 wr) (fun i _ => 16 - (Lib.intOf i).toNat)
  case atStart => exact ⟨0, by omega, rfl, Z7.out.congr fun i _ => (turnF_zero _ _ _ _).symm, B7.out⟩
  case round =>
    obtain ⟨k, hk, rfl, hz, hb⟩ := hrel
    have Z8 := Lib.hid hz
    have B8 := Lib.hid hb
    clear hz hb Z7 B7
    go_upto_region 9 with fail
    refine wp_region_lit ?_
    refine Step.p_move rfl _ rfl (.int .i64 k) rfl ?_
    simp only [Act.put, List.setIfInBounds_toArray, List.set_cons_zero, List.set_cons_succ]
    refine Step.p_val rfl (.bool (decide (k < 16))) (by unfold execOp; go_simp; try (first | rfl | omega | (by_cases h : k < 16 <;> simp [h] <;> omega))) ?_
    simp only [Act.put, List.setIfInBounds_toArray, List.set_cons_zero, List.set_cons_succ]
    refine wpList_nil ?_
    by_cases hlt : k < 16
    · skip
      have hnm := HNM.out
      go_upto_region 11 with fail
      refine Reg.wp_region_tail (C := fun w' => w' = wr.drew) (by kernel_rfl) (by kernel_rfl) rfl ?_
      simp only [Reg.idleLast, Reg.lastOf, Reg.idle]
      refine Step.q_move rfl _ rfl (.slice (some ⟨zb, 0, none⟩) N zc) rfl ?_
      simp only [Act.put, List.setIfInBounds_toArray, List.set_cons_zero, List.set_cons_succ]
      refine Step.q_move rfl _ rfl (.int .i64 j) rfl ?_
      simp only [Act.put, List.setIfInBounds_toArray, List.set_cons_zero, List.set_cons_succ]
      refine Step.q_pure rfl (.int .i64 (16 * j : Nat)) (fun w' => by unfold execOp; go_simp; try (first | rfl | omega | exact (IntWalk.i64_in _ (by omega)).trans (by omega) | exact IntWalk.i64_in _ (by omega))) ?_
      simp only [Act.put, List.setIfInBounds_toArray, List.set_cons_zero, List.set_cons_succ]
      refine Step.q_move rfl _ rfl (.int .i64 k) rfl ?_
      simp only [Act.put, List.setIfInBounds_toArray, List.set_cons_zero, List.set_cons_succ]
      refine Step.q_pure rfl (.int .i64 (16 * j + k : Nat)) (fun w' => by unfold execOp; go_simp; try (first | rfl | omega | exact (IntWalk.i64_in _ (by omega)).trans (by omega) | exact IntWalk.i64_in _ (by omega))) ?_
      simp only [Act.put, List.setIfInBounds_toArray, List.set_cons_zero, List.set_cons_succ]
      refine Step.q_move rfl _ rfl (.slice (some ⟨zb, 0, none⟩) N zc) rfl ?_
      simp only [Act.put, List.setIfInBounds_toArray, List.set_cons_zero, List.set_cons_succ]
      refine Step.q_move rfl _ rfl (.int .i64 j) rfl ?_
      simp only [Act.put, List.setIfInBounds_toArray, List.set_cons_zero, List.set_cons_succ]
      refine Step.q_pure rfl (.int .i64 (16 * j : Nat)) (fun w' => by unfold execOp; go_simp; try (first | rfl | omega | exact (IntWalk.i64_in _ (by omega)).trans (by omega) | exact IntWalk.i64_in _ (by omega))) ?_
      simp only [Act.put, List.setIfInBounds_toArray, List.set_cons_zero, List.set_cons_succ]
      refine Step.q_move rfl _ rfl (.int .i64 k) rfl ?_
      simp only [Act.put, List.setIfInBounds_toArray, List.set_cons_zero, List.set_cons_succ]
      refine Step.q_pure rfl (.int .i64 (16 * j + k : Nat)) (fun w' => by unfold execOp; go_simp; try (first | rfl | omega | exact (IntWalk.i64_in _ (by omega)).trans (by omega) | exact IntWalk.i64_in _ (by omega))) ?_
      simp only [Act.put, List.setIfInBounds_toArray, List.set_cons_zero, List.set_cons_succ]
      refine Step.q_idx rfl _ 5 _ _ rfl zb 0 N zc rfl (16 * j + k) rfl (by omega) 1 Tryz.underlying22 (by kernel_rfl) ?_
      simp only [Act.put, List.setIfInBounds_toArray, List.set_cons_zero, List.set_cons_succ]
      try simp only [Nat.zero_add, Nat.mul_one]
      refine Step.q_load1 rfl _ _ rfl (zb) (16 * j + k) rfl (.int .u8 (fB (16 * j + k) : Nat)) (fun w' hw' => by subst hw'; have h := Z8.out.cell (i := 16 * j + k) (by omega); rw [turnF_at] at h; exact h) Tryz.underlying5 rfl ?_
      simp only [Act.put, List.setIfInBounds_toArray, List.set_cons_zero, List.set_cons_succ]
      refine Step.q_move rfl _ rfl (.int .i64 k) rfl ?_
      simp only [Act.put, List.setIfInBounds_toArray, List.set_cons_zero, List.set_cons_succ]
      refine Still.q_idxA rfl _ 5 _ _ rfl (xb) (0) rfl .i64 (k) rfl hlt Tryz.underlying27 (size := 1) (by kernel_rfl) (k) (by omega) ?_
      simp only [Act.put, List.setIfInBounds_toArray, List.set_cons_zero, List.set_cons_succ]
      refine Step.q_load1 rfl _ _ rfl (xb) (k) rfl (.int .u8 (byt xn k : Nat)) (fun w' hw' => by subst hw'; exact (X6.out.below B8.out hxz).cell hlt) Tryz.underlying5 rfl ?_
      simp only [Act.put, List.setIfInBounds_toArray, List.set_cons_zero, List.set_cons_succ]
      refine Step.q_pure rfl (.int .u8 (fB (16 * j + k) ^^^ byt xn k : Nat)) (fun w' => by unfold execOp; go_simp; try (first | exact xorB_nat _ _ (FL.out _) (byt_lt _ _) | (exact congrArg _ (xorB_nat _ _ (FL.out _) (byt_lt _ _))))) ?_
      simp only [Act.put, List.setIfInBounds_toArray, List.set_cons_zero, List.set_cons_succ]
      refine Step.q_idx rfl _ 5 _ _ rfl zb 0 N zc rfl (16 * j + k) rfl (by omega) 1 Tryz.underlying22 (by kernel_rfl) ?_
      simp only [Act.put, List.setIfInBounds_toArray, List.set_cons_zero, List.set_cons_succ]
      try simp only [Nat.zero_add, Nat.mul_one]
      refine Reg.wpQuiet_idle rfl rfl rfl ?_
      intro wq hsq
      subst hsq
      obtain ⟨cur, c1, c2, c3⟩ := Z8.out
      refine Step.p_storeV rfl 5 _ _ rfl zb (16 * j + k) rfl (.int .u8 (fB (16 * j + k) ^^^ byt xn k : Nat)) rfl (fun _ e => by cases e) rfl (by kernel_rfl) (show wr.drew.heap[zb]? = _ from c1) (by omega) ?_
      intro w8 hr8 hg8 _
      simp only [Act.put]
      refine wpList_nil ?_
      have HH : Hid (Sec w8 zb N (turnF fB (byt xn) j (k + 1)) ∧ Below w6.heap.size w6 w8) := Lib.hid (And.intro (sec_turn Z8.out c1 hr8) (B8.out.drew.grown hg8 B8.out.size (fun g hg => by cases hg; exact hzg)))
      clear hr8 hg8 c1 c2 c3 Z8 B8
      go_wp2
      exact ⟨⟨k + 1, by omega, by go_num, HH.out⟩, by simp [Lib.intOf]; try omega⟩
    · obtain rfl : k = 16 := by omega
      have hnm := HNM.out
      have C8 := Lib.hid (CG.out.kp (Kp.of_below B8.out))
      have BB8 := Lib.hid (fun i hi => BB.out.below B8.out i hi)
      have X8 := Lib.hid (X6.out.below B8.out hxz)
      have B08 := Lib.hid (B6.out.trans (B8.out.mono B6.out.size))
      clear CG BB X6 B8 B6
      have FZ := Lib.hid (turnF_lt (X := byt xn) FL.out (fun i => byt_lt xn i) j 16)
      go_upto_region 12 with fail
      refine wp_region_lit ?_
      refine Step.p_move rfl _ rfl (.pointer (some ⟨cb, 0, none⟩)) rfl ?_
      simp only [Act.put, List.setIfInBounds_toArray, List.set_cons_zero, List.set_cons_succ]
      refine Step.p_move rfl _ rfl (.int .u64 s) rfl ?_
      simp only [Act.put, List.setIfInBounds_toArray, List.set_cons_zero, List.set_cons_succ]
      refine Step.p_move rfl _ rfl (.slice (some ⟨gb, 0, none⟩) N c) rfl ?_
      simp only [Act.put, List.setIfInBounds_toArray, List.set_cons_zero, List.set_cons_succ]
      refine Step.p_wp rfl (Step.w_callx 16 [.tmp 71, .tmp 72, .tmp 73] _ rfl Tryz.func16 (by kernel_rfl) rfl [.pointer (some ⟨cb, 0, none⟩), .int .u64 s, .slice (some ⟨gb, 0, none⟩) N c] rfl (open_any wr C8.out (Nat.lt_of_lt_of_le hrl B08.out.size) s hs gb 0 N c (.inr F3) F1 (by omega) fB FL.out BB8.out) ?_)
      rintro e w9 ⟨g1, rfl, hsec, _, hb⟩
      refine ⟨_, rfl, ?_⟩
      simp only [Act.put, List.setIfInBounds_toArray, List.set_cons_zero, List.set_cons_succ]
      have U9 : Hid (Sec w9 g1 N (cbcO D (iv s N) N fB)) := Lib.hid hsec
      have B09 := Lib.hid (B08.out.trans (hb.mono B08.out.size))
      have C9 := Lib.hid (C8.out.kp (Kp.of_below hb))
      have Z9 := Lib.hid (Z8.out.below hb)
      have X9 := Lib.hid (Rj.bel_arr (_B := 0) X8.out hb)
      clear hb hsec B08 C8 Z8 X8 BB8
      refine Step.p_move rfl _ rfl (.tuple #[.slice (some ⟨g1, 0, none⟩) N N, .int .i64 0]) rfl ?_
      simp only [Act.put, List.setIfInBounds_toArray, List.set_cons_zero, List.set_cons_succ]
      refine Step.p_val rfl (.slice (some ⟨g1, 0, none⟩) N N) (by unfold execOp; go_simp; try rfl) ?_
      simp only [Act.put, List.setIfInBounds_toArray, List.set_cons_zero, List.set_cons_succ]
      refine Step.p_val rfl (.int .i64 0) (by unfold execOp; go_simp; try rfl) ?_
      simp only [Act.put, List.setIfInBounds_toArray, List.set_cons_zero, List.set_cons_succ]
      refine Step.p_assign rfl _ rfl (.slice (some ⟨g1, 0, none⟩) N N) rfl ?_
      simp only [Act.put, List.setIfInBounds_toArray, List.set_cons_zero, List.set_cons_succ]
      refine Step.p_assign rfl _ rfl (.int .i64 0) rfl ?_
      simp only [Act.put, List.setIfInBounds_toArray, List.set_cons_zero, List.set_cons_succ]
      refine wpList_nil ?_
      go_upto_region 13 with fail
      refine wp_region_lit ?_
      refine Step.p_move rfl _ rfl (.pointer (some ⟨cb, 0, none⟩)) rfl ?_
      simp only [Act.put, List.setIfInBounds_toArray, List.set_cons_zero, List.set_cons_succ]
      refine Step.p_move rfl _ rfl (.int .u64 s) rfl ?_
      simp only [Act.put, List.setIfInBounds_toArray, List.set_cons_zero, List.set_cons_succ]
      refine Step.p_move rfl _ rfl (.slice (some ⟨zb, 0, none⟩) N zc) rfl ?_
      simp only [Act.put, List.setIfInBounds_toArray, List.set_cons_zero, List.set_cons_succ]
      refine Step.p_wp rfl (Step.w_callx 16 [.tmp 78, .tmp 79, .tmp 80] _ rfl Tryz.func16 (by kernel_rfl) rfl [.pointer (some ⟨cb, 0, none⟩), .int .u64 s, .slice (some ⟨zb, 0, none⟩) N zc] rfl (open_any w9 C9.out (Nat.lt_of_lt_of_le hrl B09.out.size) s hs zb 0 N zc (.inr F3) F1 (by omega) _ FZ.out (sec_bl0 Z9.out)) ?_)
      rintro e w10 ⟨g2, rfl, hsec, _, hb⟩
      refine ⟨_, rfl, ?_⟩
      simp only [Act.put, List.setIfInBounds_toArray, List.set_cons_zero, List.set_cons_succ]
      have V0 : Hid (Sec w10 g2 N (cbcO D (iv s N) N (turnF fB (byt xn) j 16))) := Lib.hid hsec
      have U0 := Lib.hid (U9.out.below hb)
      have B0 := Lib.hid (B09.out.trans (hb.mono B09.out.size))
      have XX := Lib.hid (Rj.bel_arr (_B := 0) X9.out hb)
      clear hb hsec B09 C9 Z9 X9 U9
      refine Step.p_move rfl _ rfl (.tuple #[.slice (some ⟨g2, 0, none⟩) N N, .int .i64 0]) rfl ?_
      simp only [Act.put, List.setIfInBounds_toArray, List.set_cons_zero, List.set_cons_succ]
      refine Step.p_val rfl (.slice (some ⟨g2, 0, none⟩) N N) (by unfold execOp; go_simp; try rfl) ?_
      simp only [Act.put, List.setIfInBounds_toArray, List.set_cons_zero, List.set_cons_succ]
      refine Step.p_val rfl (.int .i64 0) (by unfold execOp; go_simp; try rfl) ?_
      simp only [Act.put, List.setIfInBounds_toArray, List.set_cons_zero, List.set_cons_succ]
      refine Step.p_assign rfl _ rfl (.slice (some ⟨g2, 0, none⟩) N N) rfl ?_
      simp only [Act.put, List.setIfInBounds_toArray, List.set_cons_zero, List.set_cons_succ]
      refine Step.p_assign rfl _ rfl (.int .i64 0) rfl ?_
      simp only [Act.put, List.setIfInBounds_toArray, List.set_cons_zero, List.set_cons_succ]
      refine wpList_nil ?_
      go_upto_region 14 with fail
      refine wp_region_lit ?_
      refine Step.p_move rfl _ rfl (.int .i64 0) rfl ?_
      simp only [Act.put, List.setIfInBounds_toArray, List.set_cons_zero, List.set_cons_succ]
      refine Step.p_wp rfl (Step.w_callx 15 [.tmp 84] _ rfl Tryz.func15 (by kernel_rfl) rfl [.int .i64 0] rfl (num_any 0 _) ?_)
      rintro e w11 ⟨rfl, hw⟩
      refine ⟨_, rfl, ?_⟩
      simp only [Act.put, List.setIfInBounds_toArray, List.set_cons_zero, List.set_cons_succ]
      subst hw
      refine Step.p_val rfl (.bool false) (by unfold execOp; go_simp; try rfl) ?_
      simp only [Act.put, List.setIfInBounds_toArray, List.set_cons_zero, List.set_cons_succ]
      refine Step.p_move rfl _ rfl (.bool false) rfl ?_
      simp only [Act.put, List.setIfInBounds_toArray, List.set_cons_zero, List.set_cons_succ]
      refine Step.p_move rfl _ rfl (.int .i64 0) rfl ?_
      simp only [Act.put, List.setIfInBounds_toArray, List.set_cons_zero, List.set_cons_succ]
      refine Step.p_wp rfl (Step.w_callx 15 [.tmp 88] _ rfl Tryz.func15 (by kernel_rfl) rfl [.int .i64 0] rfl (num_any 0 _) ?_)
      rintro e w11 ⟨rfl, hw⟩
      refine ⟨_, rfl, ?_⟩
      simp only [Act.put, List.setIfInBounds_toArray, List.set_cons_zero, List.set_cons_succ]
      subst hw
      refine Step.p_val rfl (.bool false) (by unfold execOp; go_simp; try rfl) ?_
      simp only [Act.put, List.setIfInBounds_toArray, List.set_cons_zero, List.set_cons_succ]
      refine Step.p_pick rfl _ _ _ rfl false rfl (.bool false) rfl ?_
      simp only [Act.put, List.setIfInBounds_toArray, List.set_cons_zero, List.set_cons_succ]
      refine Step.p_move rfl _ rfl (.bool false) rfl ?_
      simp only [Act.put, List.setIfInBounds_toArray, List.set_cons_zero, List.set_cons_succ]
      refine Step.p_move rfl _ rfl (.slice (some ⟨g1, 0, none⟩) N N) rfl ?_
      simp only [Act.put, List.setIfInBounds_toArray, List.set_cons_zero, List.set_cons_succ]
      refine Step.p_len rfl _ _ 5 rfl (_) (N) (N) rfl Tryz.underlying22 ?_
      simp only [Act.put, List.setIfInBounds_toArray, List.set_cons_zero, List.set_cons_succ]
      refine Step.p_move rfl _ rfl (.slice (some ⟨gb, 0, none⟩) N c) rfl ?_
      simp only [Act.put, List.setIfInBounds_toArray, List.set_cons_zero, List.set_cons_succ]
      refine Step.p_len rfl _ _ 5 rfl (_) (N) (c) rfl Tryz.underlying22 ?_
      simp only [Act.put, List.setIfInBounds_toArray, List.set_cons_zero, List.set_cons_succ]
      refine Step.p_val rfl (.bool false) (by unfold execOp; go_simp; try rfl) ?_
      simp only [Act.put, List.setIfInBounds_toArray, List.set_cons_zero, List.set_cons_succ]
      refine Step.p_pick rfl _ _ _ rfl false rfl (.bool false) rfl ?_
      simp only [Act.put, List.setIfInBounds_toArray, List.set_cons_zero, List.set_cons_succ]
      refine Step.p_move rfl _ rfl (.bool false) rfl ?_
      simp only [Act.put, List.setIfInBounds_toArray, List.set_cons_zero, List.set_cons_succ]
      refine Step.p_move rfl _ rfl (.slice (some ⟨g2, 0, none⟩) N N) rfl ?_
      simp only [Act.put, List.setIfInBounds_toArray, List.set_cons_zero, List.set_cons_succ]
      refine Step.p_len rfl _ _ 5 rfl (_) (N) (N) rfl Tryz.underlying22 ?_
      simp only [Act.put, List.setIfInBounds_toArray, List.set_cons_zero, List.set_cons_succ]
      refine Step.p_move rfl _ rfl (.slice (some ⟨gb, 0, none⟩) N c) rfl ?_
      simp only [Act.put, List.setIfInBounds_toArray, List.set_cons_zero, List.set_cons_succ]
      refine Step.p_len rfl _ _ 5 rfl (_) (N) (c) rfl Tryz.underlying22 ?_
      simp only [Act.put, List.setIfInBounds_toArray, List.set_cons_zero, List.set_cons_succ]
      refine Step.p_val rfl (.bool false) (by unfold execOp; go_simp; try rfl) ?_
      simp only [Act.put, List.setIfInBounds_toArray, List.set_cons_zero, List.set_cons_succ]
      refine Step.p_pick rfl _ _ _ rfl false rfl (.bool false) rfl ?_
      simp only [Act.put, List.setIfInBounds_toArray, List.set_cons_zero, List.set_cons_succ]
      refine wpList_nil ?_
      have OW : Hid ((∀ p, p < N → p / 16 = j → (cbcO D (iv s N) N fB) p = (cbcO D (iv s N) N (turnF fB (byt xn) j 16)) p) ↔ xn = 0) := Lib.hid ((flips_own FL.out (fun i => byt_lt xn i) DL.out DI.out (by rw [HMD.out]; exact hjm)).trans (zero_iff hxn0))
      have NX : Hid (∀ p, p < N → p / 16 = j + 1 → (cbcO D (iv s N) N fB) p ^^^ (cbcO D (iv s N) N (turnF fB (byt xn) j 16)) p = byt xn (p % 16)) := Lib.hid (fun p hp h => flips_next FL.out (fun i => byt_lt xn i) (by omega) h)
      have EL : Hid (∀ p, p < N → p / 16 ≠ j → p / 16 ≠ j + 1 → (cbcO D (iv s N) N fB) p = (cbcO D (iv s N) N (turnF fB (byt xn) j 16)) p) := Lib.hid (fun p hp h1 h2 => flips_else (by omega) h1 h2)
      have UL : Hid (∀ p, (cbcO D (iv s N) N fB) p < 256) := Lib.hid (cbcO_lt FL.out)
      have VL : Hid (∀ p, (cbcO D (iv s N) N (turnF fB (byt xn) j 16)) p < 256) := Lib.hid (cbcO_lt FZ.out)
      generalize (cbcO D (iv s N) N fB) = U at *
      generalize (cbcO D (iv s N) N (turnF fB (byt xn) j 16)) = V at *
      go_wp2
      go_loopw [24, 23] (fun i b wr => ∃ p : Nat, p ≤ N ∧ i = .int .i64 p ∧ (∃ bb : Bool, b = .bool bb ∧ (bb = true ↔ ∀ q, q < p → q / 16 = j → U q = V q)) ∧ Below w10.heap.size w10 wr) (fun i _ _ => N - (Lib.intOf i).toNat)
      case atStart => exact ⟨0, by omega, rfl, ⟨true, rfl, by simp⟩, Below.refl _ _⟩
      case round =>
        obtain ⟨p, hp, rfl, ⟨bb, rfl, hbb⟩, hb⟩ := hrel
        have HB := Lib.hid hbb
        have BW := Lib.hid hb
        clear hbb hb
        go_upto_region 18 with fail
        refine wp_region_lit ?_
        refine Step.p_move rfl _ rfl (.int .i64 p) rfl ?_
        simp only [Act.put, List.setIfInBounds_toArray, List.set_cons_zero, List.set_cons_succ]
        refine Step.p_move rfl _ rfl (.slice (some ⟨gb, 0, none⟩) N c) rfl ?_
        simp only [Act.put, List.setIfInBounds_toArray, List.set_cons_zero, List.set_cons_succ]
        refine Step.p_len rfl _ _ 5 rfl (_) (N) (c) rfl Tryz.underlying22 ?_
        simp only [Act.put, List.setIfInBounds_toArray, List.set_cons_zero, List.set_cons_succ]
        refine Step.p_val rfl (.bool (decide (p < N))) (by unfold execOp; go_simp; try (first | rfl | omega | (by_cases h : p < N <;> simp [h] <;> omega))) ?_
        simp only [Act.put, List.setIfInBounds_toArray, List.set_cons_zero, List.set_cons_succ]
        refine wpList_nil ?_
        by_cases hlt : p < N
        · skip
          go_upto_region 20 with fail
          refine wp_region_lit ?_
          refine Step.p_move rfl _ rfl (.int .i64 p) rfl ?_
          simp only [Act.put, List.setIfInBounds_toArray, List.set_cons_zero, List.set_cons_succ]
          refine Step.p_val rfl (.int .i64 (p / 16 : Nat)) (by unfold execOp; go_simp; try (first | rfl | exact IntWalk.i64_in _ (by omega))) ?_
          simp only [Act.put, List.setIfInBounds_toArray, List.set_cons_zero, List.set_cons_succ]
          refine wpList_nil ?_
          by_cases hpj : p / 16 = j
          · skip
            go_upto_region 23 with fail
            refine wp_region_lit ?_
            refine Step.p_move rfl _ rfl (.int .i64 j) rfl ?_
            simp only [Act.put, List.setIfInBounds_toArray, List.set_cons_zero, List.set_cons_succ]
            refine Step.p_val rfl (.bool true) (by unfold execOp; go_simp; try (first | rfl | omega)) ?_
            simp only [Act.put, List.setIfInBounds_toArray, List.set_cons_zero, List.set_cons_succ]
            refine Step.p_assign rfl _ rfl (.bool true) rfl ?_
            simp only [Act.put, List.setIfInBounds_toArray, List.set_cons_zero, List.set_cons_succ]
            refine wpList_nil ?_
            cases bb
            case true =>
              go_upto_region 24 with fail
              refine Step.wp_region_class (C := fun w' => Below w10.heap.size w10 w') (by kernel_rfl) (by kernel_rfl) BW.out.drew ?_
              refine Step.q_move rfl _ rfl (.bool true) rfl ?_
              simp only [Act.put, List.setIfInBounds_toArray, List.set_cons_zero, List.set_cons_succ]
              refine Step.q_move rfl _ rfl (.bool true) rfl ?_
              simp only [Act.put, List.setIfInBounds_toArray, List.set_cons_zero, List.set_cons_succ]
              refine Step.q_move rfl _ rfl (.slice (some ⟨g1, 0, none⟩) N N) rfl ?_
              simp only [Act.put, List.setIfInBounds_toArray, List.set_cons_zero, List.set_cons_succ]
              refine Step.q_move rfl _ rfl (.int .i64 p) rfl ?_
              simp only [Act.put, List.setIfInBounds_toArray, List.set_cons_zero, List.set_cons_succ]
              refine Step.q_idx rfl _ 5 _ _ rfl g1 0 N N rfl p rfl hlt 1 Tryz.underlying22 (by kernel_rfl) ?_
              simp only [Act.put, List.setIfInBounds_toArray, List.set_cons_zero, List.set_cons_succ]
              try simp only [Nat.zero_add, Nat.mul_one]
              refine Step.q_load1 rfl _ _ rfl (g1) (p) rfl (.int .u8 (U p : Nat)) (fun w' hw' => by exact (U0.out.below hw').cell hlt) Tryz.underlying5 rfl ?_
              simp only [Act.put, List.setIfInBounds_toArray, List.set_cons_zero, List.set_cons_succ]
              refine Step.q_move rfl _ rfl (.slice (some ⟨g2, 0, none⟩) N N) rfl ?_
              simp only [Act.put, List.setIfInBounds_toArray, List.set_cons_zero, List.set_cons_succ]
              refine Step.q_move rfl _ rfl (.int .i64 p) rfl ?_
              simp only [Act.put, List.setIfInBounds_toArray, List.set_cons_zero, List.set_cons_succ]
              refine Step.q_idx rfl _ 5 _ _ rfl g2 0 N N rfl p rfl hlt 1 Tryz.underlying22 (by kernel_rfl) ?_
              simp only [Act.put, List.setIfInBounds_toArray, List.set_cons_zero, List.set_cons_succ]
              try simp only [Nat.zero_add, Nat.mul_one]
              refine Step.q_load1 rfl _ _ rfl (g2) (p) rfl (.int .u8 (V p : Nat)) (fun w' hw' => by exact (V0.out.below hw').cell hlt) Tryz.underlying5 rfl ?_
              simp only [Act.put, List.setIfInBounds_toArray, List.set_cons_zero, List.set_cons_succ]
              refine Step.q_pure rfl (.bool (decide (U p = V p))) (fun w' => by unfold execOp; go_simp; try (first | rfl | (by_cases h : U p = V p <;> simp [h] <;> omega))) ?_
              simp only [Act.put, List.setIfInBounds_toArray, List.set_cons_zero, List.set_cons_succ]
              refine Step.q_pick rfl _ _ _ rfl true rfl (.bool (decide (U p = V p))) rfl ?_
              simp only [Act.put, List.setIfInBounds_toArray, List.set_cons_zero, List.set_cons_succ]
              refine Step.q_assign rfl _ rfl (.bool (decide (U p = V p))) rfl ?_
              simp only [Act.put, List.setIfInBounds_toArray, List.set_cons_zero, List.set_cons_succ]
              refine wpQuiet_nil ?_
              intro w12 hb12
              have HF := Lib.hid hb12
              clear hb12
              go_wp2
              exact ⟨⟨p + 1, by omega, by go_num, ⟨_, rfl, by simpa using all_step HB.out hpj⟩, HF.out⟩, by simp [Lib.intOf]; try omega⟩
            case false =>
              go_upto_region 24 with fail
              refine Step.wp_region_class (C := fun w' => Below w10.heap.size w10 w') (by kernel_rfl) (by kernel_rfl) BW.out.drew ?_
              refine Step.q_move rfl _ rfl (.bool false) rfl ?_
              simp only [Act.put, List.setIfInBounds_toArray, List.set_cons_zero, List.set_cons_succ]
              refine Step.q_move rfl _ rfl (.bool false) rfl ?_
              simp only [Act.put, List.setIfInBounds_toArray, List.set_cons_zero, List.set_cons_succ]
              with_reducible refine Step.q_skip ?_ ?_
              · kernel_rfl
              simp only [Act.put, List.setIfInBounds_toArray, List.set_cons_zero, List.set_cons_succ]
              with_reducible refine Step.q_skip ?_ ?_
              · kernel_rfl
              simp only [Act.put, List.setIfInBounds_toArray, List.set_cons_zero, List.set_cons_succ]
              with_reducible refine Step.q_skip ?_ ?_
              · kernel_rfl
              simp only [Act.put, List.setIfInBounds_toArray, List.set_cons_zero, List.set_cons_succ]
              with_reducible refine Step.q_skip ?_ ?_
              · kernel_rfl
              simp only [Act.put, List.setIfInBounds_toArray, List.set_cons_zero, List.set_cons_succ]
              with_reducible refine Step.q_skip ?_ ?_
              · kernel_rfl
              simp only [Act.put, List.setIfInBounds_toArray, List.set_cons_zero, List.set_cons_succ]
              with_reducible refine Step.q_skip ?_ ?_
              · kernel_rfl
              simp only [Act.put, List.setIfInBounds_toArray, List.set_cons_zero, List.set_cons_succ]
              with_reducible refine Step.q_skip ?_ ?_
              · kernel_rfl
              simp only [Act.put, List.setIfInBounds_toArray, List.set_cons_zero, List.set_cons_succ]
              with_reducible refine Step.q_skip ?_ ?_
              · kernel_rfl
              simp only [Act.put, List.setIfInBounds_toArray, List.set_cons_zero, List.set_cons_succ]
              with_reducible refine Step.q_skip ?_ ?_
              · kernel_rfl
              simp only [Act.put, List.setIfInBounds_toArray, List.set_cons_zero, List.set_cons_succ]
              refine Step.q_pick rfl _ _ _ rfl false rfl (.bool false) rfl ?_
              simp only [Act.put, List.setIfInBounds_toArray, List.set_cons_zero, List.set_cons_succ]
              refine Step.q_assign rfl _ rfl (.bool false) rfl ?_
              simp only [Act.put, List.setIfInBounds_toArray, List.set_cons_zero, List.set_cons_succ]
              refine wpQuiet_nil ?_
              intro w12 hb12
              have HF := Lib.hid hb12
              clear hb12
              go_wp2
              exact ⟨⟨p + 1, by omega, by go_num, ⟨_, rfl, by simpa using all_step HB.out hpj⟩, HF.out⟩, by simp [Lib.intOf]; try omega⟩
          · skip
            go_upto_region 23 with fail
            refine wp_region_lit ?_
            refine Step.p_move rfl _ rfl (.int .i64 j) rfl ?_
            simp only [Act.put, List.setIfInBounds_toArray, List.set_cons_zero, List.set_cons_succ]
            refine Step.p_val rfl (.bool false) (by unfold execOp; go_simp; try (first | rfl | omega)) ?_
            simp only [Act.put, List.setIfInBounds_toArray, List.set_cons_zero, List.set_cons_succ]
            refine Step.p_assign rfl _ rfl (.bool false) rfl ?_
            simp only [Act.put, List.setIfInBounds_toArray, List.set_cons_zero, List.set_cons_succ]
            refine wpList_nil ?_
            by_cases hpk : p / 16 = j + 1
            · skip
              go_upto_region 25 with fail
              refine wp_region_lit ?_
              refine Step.p_move rfl _ rfl (.int .i64 j) rfl ?_
              simp only [Act.put, List.setIfInBounds_toArray, List.set_cons_zero, List.set_cons_succ]
              refine Step.p_val rfl (.int .i64 (j + 1 : Nat)) (by unfold execOp; go_simp; try (first | rfl | omega | exact (IntWalk.i64_in _ (by omega)).trans (by omega) | exact IntWalk.i64_in _ (by omega))) ?_
              simp only [Act.put, List.setIfInBounds_toArray, List.set_cons_zero, List.set_cons_succ]
              refine Step.p_val rfl (.bool true) (by unfold execOp; go_simp; try (first | rfl | omega)) ?_
              simp only [Act.put, List.setIfInBounds_toArray, List.set_cons_zero, List.set_cons_succ]
              refine Step.p_assign rfl _ rfl (.bool true) rfl ?_
              simp only [Act.put, List.setIfInBounds_toArray, List.set_cons_zero, List.set_cons_succ]
              refine wpList_nil ?_
              go_upto_region 26 with fail
              refine Step.wp_region_class (C := fun w' => Below w10.heap.size w10 w') (by kernel_rfl) (by kernel_rfl) BW.out.drew ?_
              refine Step.q_move rfl _ rfl (.slice (some ⟨g1, 0, none⟩) N N) rfl ?_
              simp only [Act.put, List.setIfInBounds_toArray, List.set_cons_zero, List.set_cons_succ]
              refine Step.q_move rfl _ rfl (.int .i64 p) rfl ?_
              simp only [Act.put, List.setIfInBounds_toArray, List.set_cons_zero, List.set_cons_succ]
              refine Step.q_idx rfl _ 5 _ _ rfl g1 0 N N rfl p rfl hlt 1 Tryz.underlying22 (by kernel_rfl) ?_
              simp only [Act.put, List.setIfInBounds_toArray, List.set_cons_zero, List.set_cons_succ]
              try simp only [Nat.zero_add, Nat.mul_one]
              refine Step.q_load1 rfl _ _ rfl (g1) (p) rfl (.int .u8 (U p : Nat)) (fun w' hw' => by exact (U0.out.below hw').cell hlt) Tryz.underlying5 rfl ?_
              simp only [Act.put, List.setIfInBounds_toArray, List.set_cons_zero, List.set_cons_succ]
              refine Step.q_move rfl _ rfl (.slice (some ⟨g2, 0, none⟩) N N) rfl ?_
              simp only [Act.put, List.setIfInBounds_toArray, List.set_cons_zero, List.set_cons_succ]
              refine Step.q_move rfl _ rfl (.int .i64 p) rfl ?_
              simp only [Act.put, List.setIfInBounds_toArray, List.set_cons_zero, List.set_cons_succ]
              refine Step.q_idx rfl _ 5 _ _ rfl g2 0 N N rfl p rfl hlt 1 Tryz.underlying22 (by kernel_rfl) ?_
              simp only [Act.put, List.setIfInBounds_toArray, List.set_cons_zero, List.set_cons_succ]
              try simp only [Nat.zero_add, Nat.mul_one]
              refine Step.q_load1 rfl _ _ rfl (g2) (p) rfl (.int .u8 (V p : Nat)) (fun w' hw' => by exact (V0.out.below hw').cell hlt) Tryz.underlying5 rfl ?_
              simp only [Act.put, List.setIfInBounds_toArray, List.set_cons_zero, List.set_cons_succ]
              refine Step.q_pure rfl (.int .u8 (byt xn (p % 16) : Nat)) (fun w' => by unfold execOp; go_simp; rw [← NX.out p hlt hpk]; try (first | exact xorB_nat _ _ (UL.out _) (VL.out _) | exact congrArg _ (xorB_nat _ _ (UL.out _) (VL.out _)))) ?_
              simp only [Act.put, List.setIfInBounds_toArray, List.set_cons_zero, List.set_cons_succ]
              refine Step.q_move rfl _ rfl (.int .i64 p) rfl ?_
              simp only [Act.put, List.setIfInBounds_toArray, List.set_cons_zero, List.set_cons_succ]
              refine Step.q_pure rfl (.int .i64 (p % 16 : Nat)) (fun w' => by unfold execOp; go_simp; try (first | rfl | exact IntWalk.i64_in _ (by omega))) ?_
              simp only [Act.put, List.setIfInBounds_toArray, List.set_cons_zero, List.set_cons_succ]
              refine Still.q_idxA rfl _ 5 _ _ rfl (xb) (0) rfl .i64 ((p % 16)) rfl (Nat.mod_lt _ (by decide)) Tryz.underlying27 (size := 1) (by kernel_rfl) (p % 16) (by omega) ?_
              simp only [Act.put, List.setIfInBounds_toArray, List.set_cons_zero, List.set_cons_succ]
              refine Step.q_load1 rfl _ _ rfl (xb) (p % 16) rfl (.int .u8 (byt xn (p % 16) : Nat)) (fun w' hw' => by exact (Rj.bel_arr (_B := 0) XX.out hw').cell (Nat.mod_lt _ (by decide))) Tryz.underlying5 rfl ?_
              simp only [Act.put, List.setIfInBounds_toArray, List.set_cons_zero, List.set_cons_succ]
              refine Step.q_pure rfl (.bool false) (fun w' => by unfold execOp; go_simp; try rfl) ?_
              simp only [Act.put, List.setIfInBounds_toArray, List.set_cons_zero, List.set_cons_succ]
              refine wpQuiet_nil ?_
              intro w12 hb12
              have HF := Lib.hid hb12
              clear hb12
              go_wp2
              exact ⟨⟨p + 1, by omega, by go_num, ⟨_, rfl, all_skip HB.out hpj⟩, HF.out⟩, by simp [Lib.intOf]; try omega⟩
            · skip
              go_upto_region 25 with fail
              refine wp_region_lit ?_
              refine Step.p_move rfl _ rfl (.int .i64 j) rfl ?_
              simp only [Act.put, List.setIfInBounds_toArray, List.set_cons_zero, List.set_cons_succ]
              refine Step.p_val rfl (.int .i64 (j + 1 : Nat)) (by unfold execOp; go_simp; try (first | rfl | omega | exact (IntWalk.i64_in _ (by omega)).trans (by omega) | exact IntWalk.i64_in _ (by omega))) ?_
              simp only [Act.put, List.setIfInBounds_toArray, List.set_cons_zero, List.set_cons_succ]
              refine Step.p_val rfl (.bool false) (by unfold execOp; go_simp; try (first | rfl | omega)) ?_
              simp only [Act.put, List.setIfInBounds_toArray, List.set_cons_zero, List.set_cons_succ]
              refine Step.p_assign rfl _ rfl (.bool false) rfl ?_
              simp only [Act.put, List.setIfInBounds_toArray, List.set_cons_zero, List.set_cons_succ]
              refine wpList_nil ?_
              go_upto_region 21 with fail
              refine Step.wp_region_class (C := fun w' => Below w10.heap.size w10 w') (by kernel_rfl) (by kernel_rfl) BW.out.drew ?_
              refine Step.q_move rfl _ rfl (.slice (some ⟨g1, 0, none⟩) N N) rfl ?_
              simp only [Act.put, List.setIfInBounds_toArray, List.set_cons_zero, List.set_cons_succ]
              refine Step.q_move rfl _ rfl (.int .i64 p) rfl ?_
              simp only [Act.put, List.setIfInBounds_toArray, List.set_cons_zero, List.set_cons_succ]
              refine Step.q_idx rfl _ 5 _ _ rfl g1 0 N N rfl p rfl hlt 1 Tryz.underlying22 (by kernel_rfl) ?_
              simp only [Act.put, List.setIfInBounds_toArray, List.set_cons_zero, List.set_cons_succ]
              try simp only [Nat.zero_add, Nat.mul_one]
              refine Step.q_load1 rfl _ _ rfl (g1) (p) rfl (.int .u8 (U p : Nat)) (fun w' hw' => by exact (U0.out.below hw').cell hlt) Tryz.underlying5 rfl ?_
              simp only [Act.put, List.setIfInBounds_toArray, List.set_cons_zero, List.set_cons_succ]
              refine Step.q_move rfl _ rfl (.slice (some ⟨g2, 0, none⟩) N N) rfl ?_
              simp only [Act.put, List.setIfInBounds_toArray, List.set_cons_zero, List.set_cons_succ]
              refine Step.q_move rfl _ rfl (.int .i64 p) rfl ?_
              simp only [Act.put, List.setIfInBounds_toArray, List.set_cons_zero, List.set_cons_succ]
              refine Step.q_idx rfl _ 5 _ _ rfl g2 0 N N rfl p rfl hlt 1 Tryz.underlying22 (by kernel_rfl) ?_
              simp only [Act.put, List.setIfInBounds_toArray, List.set_cons_zero, List.set_cons_succ]
              try simp only [Nat.zero_add, Nat.mul_one]
              refine Step.q_load1 rfl _ _ rfl (g2) (p) rfl (.int .u8 (V p : Nat)) (fun w' hw' => by exact (V0.out.below hw').cell hlt) Tryz.underlying5 rfl ?_
              simp only [Act.put, List.setIfInBounds_toArray, List.set_cons_zero, List.set_cons_succ]
              refine Step.q_pure rfl (.bool false) (fun w' => by unfold execOp; go_simp; try (first | rfl | simp [EL.out p hlt hpj hpk] | (rw [EL.out p hlt hpj hpk]; simp))) ?_
              simp only [Act.put, List.setIfInBounds_toArray, List.set_cons_zero, List.set_cons_succ]
              refine wpQuiet_nil ?_
              intro w12 hb12
              have HF := Lib.hid hb12
              clear hb12
              go_wp2
              exact ⟨⟨p + 1, by omega, by go_num, ⟨_, rfl, all_skip HB.out hpj⟩, HF.out⟩, by simp [Lib.intOf]; try omega⟩
        · obtain rfl : p = N := by omega
          go_upto_region 28 with fail
          refine wp_region_lit ?_
          refine Step.p_move rfl _ rfl (.bool bb) rfl ?_
          simp only [Act.put, List.setIfInBounds_toArray, List.set_cons_zero, List.set_cons_succ]
          refine Step.p_load rfl _ _ rfl xb rfl (Rj.bel_arr (_B := 0) XX.out BW.out) Tryz.underlying27 rfl Field.info16 ?_
          simp only [Act.put, List.setIfInBounds_toArray, List.set_cons_zero, List.set_cons_succ]
          refine Step.p_val rfl (B16 0) (by unfold execOp; simp only [Sem.run_bind, Array.map_empty, RS.build0, Result.andThen_ok, Sem.run_pure]) ?_
          simp only [Act.put, List.setIfInBounds_toArray, List.set_cons_zero, List.set_cons_succ]
          refine p_eq16 rfl _ _ _ _ rfl xn 0 rfl rfl Tryz.underlying27 Tryz.underlying5 (by kernel_rfl) (by kernel_rfl) hxn0 (by decide) (xn == 0) rfl ?_
          simp only [Act.put, List.setIfInBounds_toArray, List.set_cons_zero, List.set_cons_succ]
          have hbx : bb = (xn == 0) := by
            rw [Bool.eq_iff_iff, HB.out, beq_iff_eq]
            exact OW.out
          refine Step.p_val rfl (.bool true) (by unfold execOp; go_simp; try (first | rfl | simp [hbx] | (rw [hbx]; simp))) ?_
          simp only [Act.put, List.setIfInBounds_toArray, List.set_cons_zero, List.set_cons_succ]
          refine Step.p_assign rfl _ rfl (.bool true) rfl ?_
          simp only [Act.put, List.setIfInBounds_toArray, List.set_cons_zero, List.set_cons_succ]
          refine wpList_nil ?_
          go_wp2
          go_ret
          exact ⟨rfl, B0.out.trans (BW.out.mono B0.out.size)⟩
end Go.Proofs.YtmifebcaifbmoaaGreatDoor.TFlips
end
