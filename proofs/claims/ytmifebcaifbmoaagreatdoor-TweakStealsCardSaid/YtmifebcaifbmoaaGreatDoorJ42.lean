import Derived.Test.YtmifebcaifbmoaaGreatDoorJ41
import Derived.Test.YtmifebcaifbmoaaGreatDoorJ30
/- Steals -/
section
namespace Go.Proofs.YtmifebcaifbmoaaGreatDoor.TSteals
open Go.RowKit Go.Lib Go.Proofs.YtmifebcaifbmoaaGreatDoor.Blk Go.Proofs.YtmifebcaifbmoaaGreatDoor.Aes Go.Proofs.YtmifebcaifbmoaaGreatDoor.Tab Go.Proofs.YtmifebcaifbmoaaGreatDoor.Byts Go.Proofs.YtmifebcaifbmoaaGreatDoor.Push Go.Proofs.YtmifebcaifbmoaaGreatDoor.Poly Go.Proofs.YtmifebcaifbmoaaGreatDoor.Field Go.Proofs.YtmifebcaifbmoaaGreatDoor.Tw Go.Proofs.YtmifebcaifbmoaaGreatDoor.G
section
variable {P : Program} {a : Act} {w : World} {o : Oper} {K : Act → World → Prop} {Q : Exit → Act → World → Prop}
theorem w_lit4 (t e : TypeId) (x0 x1 x2 x3 : Operand) (ho : o.op = .buildSlice t 4 #[(0, x0), (1, x1), (2, x2), (3, x3)]) (k : IntKind) (c0 c1 c2 c3 : Int) (e0 : a.eval x0 = .int k c0) (e1 : a.eval x1 = .int k c1) (e2 : a.eval x2 = .int k c2) (e3 : a.eval x3 = .int k c3)
    (hu : P.underlying t = some (.slice e)) {ie : TypeInfo} {z : Value} (hie : P.info? e = some ie) (hz : ie.zero = some z) (hs : ie.size = 1)
    (h : K (a.put o.dst (.slice (some ⟨w.heap.size, 0, none⟩) 4 4)) (w.alloc (.cells #[.int k c0, .int k c1, .int k c2, .int k c3] e))) : o.wp P a w K Q := by
  refine wp_buildSlice t e 4 _ ho _ ie z hu hie hz (by rw [hs]; decide) (by rw [hs]; decide) ?_ h
  simp only [List.map_toArray, List.map_cons, List.map_nil, e0, e1, e2, e3, hs]
  have := Great.fill_whole (s := 1) (by decide) [.int k c0, .int k c1, .int k c2, .int k c3] ((Array.range (4 * 1)).map (z.cells[· % z.cells.size]!)) (fun v hv => by
    simp only [List.mem_cons, List.not_mem_nil, or_false] at hv
    rcases hv with rfl | rfl | rfl | rfl <;> rfl) (by simp)
  simpa [Value.cells] using this
end
theorem int_info : ∃ i, Tryz.prog.info? 3 = some i ∧ i.zero = some (.int .i64 0) ∧ i.size = 1 ∧ i.bytes = 8 := info_parts' (by kernel_rfl)

def kL (j : Nat) : Nat := 11 + j
theorem fitF_lt {n : Nat} {f : Nat → Nat} (hf : ∀ j, f j < 256) (j : Nat) : fitF n f j < 256 := by
  unfold fitF
  split
  · exact Nat.mod_lt _ (by decide)
  · exact hf _
set_option maxRecDepth 100000 in
set_option maxHeartbeats 8000000 in
theorem law_any (z nz : Int) (hz : IntKind.i64.has z) (hnz : IntKind.i64.has nz) (s : Nat) (hs : s < 2 ^ 64) (q : Option Addr) (n cap : Nat) (fk : Nat → Nat) (hfk : ∀ j, fk j < 256) (bq : Option Addr) (bn bcap : Nat) (fb : Nat → Nat) (hfb : ∀ j, fb j < 256) (w : World) (hV : Vars w)
    (hB : BL w q n fk) (hnc : n ≤ cap) (hcm : cap ≤ 9223372036854775807) (hB2 : BL w bq bn fb) (hnc2 : bn ≤ bcap) (hcm2 : bcap ≤ 9223372036854775807) :
    Calls Tryz.prog 5 #[pickV z q n cap, .int .u64 s, .slice bq bn bcap, .int .i64 nz] w fun e w' => e = .returned (.bool true) ∧ Below w.heap.size w w' := by
  have hrl : 2 < w.heap.size := Frame.block_lt (hV.r 0 (by decide))
  have hi0 : nnP z / 4 % 3 < 3 := Nat.mod_lt _ (by decide)
  have hk0 : nnP z % 4 < 4 := Nat.mod_lt _ (by decide)
  have OF := Lib.hid (fun g w' hc => of_any kL 4 (by decide) (by decide) (fun j hj => by unfold kL; omega) z hz q n cap g 4 w' hc)
  obtain ⟨i0, hie⟩ : ∃ i0, nnP z / 4 % 3 = i0 := ⟨_, rfl⟩
  obtain ⟨k0, hke⟩ : ∃ k0, nnP z % 4 = k0 := ⟨_, rfl⟩
  have EO : ofN kL 4 z = 1 + 17 * i0 + (10 + k0) := by
    unfold ofN kL
    rw [hie, hke]
    omega
  rw [EO] at OF
  rw [hie] at hi0
  rw [hke] at hk0
  have MD : Hid (∀ w', Below w.heap.size w w' → Calls Tryz.prog 11 #[pickV ((1 + 17 * i0 + (10 + k0) : Nat) : Int) q n cap] w' fun e w2 => ∃ cb rb, e = .returned (.tuple #[.pointer (some ⟨cb, 0, none⟩), .pointer (some ⟨rb, 0, none⟩), .bool true]) ∧ PrX (keyE (keyF n fk) (4 + 2 * i0)) cb w2 ∧ Below w'.heap.size w' w2) := Lib.hid fun w' b => by
    rcases (show k0 = 0 ∨ k0 = 1 ∨ k0 = 2 ∨ k0 = 3 by omega) with rfl | rfl | rfl | rfl
    · exact madeX10 i0 hi0 q n cap fk hfk w' (hV.below b) (hB.below b) hnc hcm
    · exact madeX11 i0 hi0 q n cap fk hfk w' (hV.below b) (hB.below b) hnc hcm
    · exact madeX12 i0 hi0 q n cap fk hfk w' (hV.below b) (hB.below b) hnc hcm
    · exact madeX13 i0 hi0 q n cap fk hfk w' (hV.below b) (hB.below b) hnc hcm
  have FT := Lib.hid (fun w' (b : Below w.heap.size w w') => fit_any bq bn bcap fb nz hnz false w' (hB2.below b) hnc2 hcm2)
  have FL := Lib.hid (fitF_lt (n := bn) hfb)
  have P0 := Lib.hid (pkv_new z q n cap w)
  have PK := Lib.hid (PrX.kp (E := keyE (keyF n fk) (4 + 2 * i0)))
  obtain ⟨F1, F2⟩ := fitN_bd nz false
  clear hV hB hB2 EO hfk hfb hz hnz hie hke hi0 hk0
  unfold pickV at *
  generalize (1 + 17 * i0 + (10 + k0) : Nat) = t at *
  generalize keyE (keyF n fk) (4 + 2 * i0) = E at *
  generalize fitN nz false = N at *
  generalize fitF bn fb = fB at *
  go_enter Tryz.func5, Tryz.ntmps5
  go_upto_region 1 with fail
  generalize (w.alloc (.cells #[.int .i64 z, .slice q n cap] 24)) = w1 at *
  refine wp_region_lit ?_
  refine Tree.p_loadrow rfl _ _ rfl (w.heap.size) rfl (P0.out.p) Tryz.underlying24 rfl (by kernel_rfl) ?_
  simp only [Act.put, List.setIfInBounds_toArray, List.set_cons_zero, List.set_cons_succ]
  obtain ⟨iI, hI1, hI2, hI3, _⟩ := int_info
  refine Step.p_wp rfl (w_lit4 _ _ _ _ _ _ rfl .i64 11 12 13 14 rfl rfl rfl rfl Tryz.underlying29 hI1 hI2 hI3 ?_)
  simp only [Act.put, List.setIfInBounds_toArray, List.set_cons_zero, List.set_cons_succ]
  have P1 := Lib.hid (P0.out.alloc (.cells #[.int .i64 11, .int .i64 12, .int .i64 13, .int .i64 14] 3))
  have hck : ∀ j, j < 4 → (w1.alloc (.cells #[.int .i64 11, .int .i64 12, .int .i64 13, .int .i64 14] 3)).cell? ⟨w1.heap.size, j, none⟩ = some (.int .i64 ((kL j : Nat) : Int)) := fun j hj => by
    rw [cell_of_row _ _ _ _ _ _ (heap_alloc_new w1 _)]
    match j, hj with
    | 0, _ => rfl
    | 1, _ => rfl
    | 2, _ => rfl
    | 3, _ => rfl
    | m + 4, hm => exact absurd hm (by omega)
  have H1 := Lib.hid (OF.out w1.heap.size (w1.alloc (.cells #[.int .i64 11, .int .i64 12, .int .i64 13, .int .i64 14] 3)) hck)
  clear hck
  generalize (w1.alloc (.cells #[.int .i64 11, .int .i64 12, .int .i64 13, .int .i64 14] 3)) = w2 at *
  clear P0 OF
  refine Step.p_wp rfl (Step.w_callx 10 [.tmp 18, .tmp 19] _ rfl Tryz.func10 (by kernel_rfl) rfl [.agg #[.int .i64 z, .slice q n cap], .slice (some ⟨w1.heap.size, 0, none⟩) 4 4] rfl (H1.out) ?_)
  rintro e w3 ⟨rfl, hb⟩
  refine ⟨_, rfl, ?_⟩
  simp only [Act.put, List.setIfInBounds_toArray, List.set_cons_zero, List.set_cons_succ]
  have P2 := Lib.hid (P1.out.next hb)
  clear hb P1 H1
  refine Cell.p_storerow rfl 24 _ _ rfl w.heap.size rfl #[.int .i64 (t : Nat), .slice q n cap] rfl (by kernel_rfl) (by simp [Value.oneCell']) P2.out.p rfl ?_
  intro w4 hr4 hg4 _
  simp only [Act.put]
  refine wpList_nil ?_
  have P3 : Hid (PkV (t : Nat) q n cap w.heap.size w w4) := Lib.hid ⟨hr4, P2.out.bel.grown hg4 P2.out.bel.size (fun j hj => by cases hj; exact Nat.le_refl _)⟩
  clear hr4 hg4 P2
  go_upto_region 2 with fail
  refine wp_region_lit ?_
  refine Tree.p_loadrow rfl _ _ rfl (w.heap.size) rfl (P3.out.p) Tryz.underlying24 rfl (by kernel_rfl) ?_
  simp only [Act.put, List.setIfInBounds_toArray, List.set_cons_zero, List.set_cons_succ]
  refine Step.p_wp rfl (Step.w_callx 11 [.tmp 22] _ rfl Tryz.func11 (by kernel_rfl) rfl [.agg #[.int .i64 (t : Nat), .slice q n cap]] rfl (MD.out w4 P3.out.bel) ?_)
  rintro e w5 ⟨cb, rb, rfl, hci, hb⟩
  refine ⟨_, rfl, ?_⟩
  simp only [Act.put, List.setIfInBounds_toArray, List.set_cons_zero, List.set_cons_succ]
  have B5 := Lib.hid (P3.out.bel.trans (hb.mono P3.out.bel.size))
  have C5 := Lib.hid hci
  clear hb hci P3 MD
  refine Step.p_move rfl _ rfl (.tuple #[.pointer (some ⟨cb, 0, none⟩), .pointer (some ⟨rb, 0, none⟩), .bool true]) rfl ?_
  simp only [Act.put, List.setIfInBounds_toArray, List.set_cons_zero, List.set_cons_succ]
  refine Step.p_val rfl (.pointer (some ⟨cb, 0, none⟩)) (by unfold execOp; go_simp; try rfl) ?_
  simp only [Act.put, List.setIfInBounds_toArray, List.set_cons_zero, List.set_cons_succ]
  refine Step.p_val rfl (.pointer (some ⟨rb, 0, none⟩)) (by unfold execOp; go_simp; try rfl) ?_
  simp only [Act.put, List.setIfInBounds_toArray, List.set_cons_zero, List.set_cons_succ]
  refine Step.p_val rfl (.bool true) (by unfold execOp; go_simp; try rfl) ?_
  simp only [Act.put, List.setIfInBounds_toArray, List.set_cons_zero, List.set_cons_succ]
  refine Step.p_assign rfl _ rfl (.pointer (some ⟨cb, 0, none⟩)) rfl ?_
  simp only [Act.put, List.setIfInBounds_toArray, List.set_cons_zero, List.set_cons_succ]
  refine Step.p_assign rfl _ rfl (.pointer (some ⟨rb, 0, none⟩)) rfl ?_
  simp only [Act.put, List.setIfInBounds_toArray, List.set_cons_zero, List.set_cons_succ]
  refine Step.p_assign rfl _ rfl (.bool true) rfl ?_
  simp only [Act.put, List.setIfInBounds_toArray, List.set_cons_zero, List.set_cons_succ]
  refine wpList_nil ?_
  go_upto_region 5 with fail
  refine wp_region_lit ?_
  refine Step.p_move rfl _ rfl (.slice bq bn bcap) rfl ?_
  simp only [Act.put, List.setIfInBounds_toArray, List.set_cons_zero, List.set_cons_succ]
  refine Step.p_move rfl _ rfl (.int .i64 nz) rfl ?_
  simp only [Act.put, List.setIfInBounds_toArray, List.set_cons_zero, List.set_cons_succ]
  refine Step.p_wp rfl (Step.w_callx 12 [.tmp 29, .tmp 30, .const (.bool false)] _ rfl Tryz.func12 (by kernel_rfl) rfl [.slice bq bn bcap, .int .i64 nz, .bool false] rfl (FT.out w5 B5.out) ?_)
  rintro e w6 ⟨v, rfl, ho, hb⟩
  refine ⟨_, rfl, ?_⟩
  simp only [Act.put, List.setIfInBounds_toArray, List.set_cons_zero, List.set_cons_succ]
  obtain ⟨gb, c, rfl, x1, x2, x3, x4⟩ := ho
  have BB : Hid (BL w6 (some ⟨gb, 0, none⟩) N fB) := Lib.hid (fun i hi => ⟨gb, 0, rfl, by rw [Nat.zero_add]; exact x4 i hi⟩)
  have hgb : w5.heap.size ≤ gb := x1
  have B6 := Lib.hid (B5.out.trans (hb.mono B5.out.size))
  have C6 := Lib.hid (PK.out _ _ _ C5.out (Kp.of_below hb))
  have x2c := x2
  have x3c := x3
  clear hb x4 x1 x2 x3 C5 FT
  refine Step.p_assign rfl _ rfl (.slice (some ⟨gb, 0, none⟩) N c) rfl ?_
  simp only [Act.put, List.setIfInBounds_toArray, List.set_cons_zero, List.set_cons_succ]
  refine wpList_nil ?_
  obtain ⟨kk, iv, OO, T, hC⟩ := C6.out
  have CG := Lib.hid hC
  clear hC C6
  obtain ⟨m, hm⟩ : ∃ m, N / 16 = m := ⟨_, rfl⟩
  obtain ⟨r, hr⟩ : ∃ r, N % 16 = r := ⟨_, rfl⟩
  have hm1 : 1 ≤ m ∧ m ≤ 32 ∧ r < 16 := by omega
  have HM : Hid ((N : Int).tdiv 16 = (m : Nat)) := Lib.hid (by rw [← hm]; rfl)
  have HR : Hid ((N : Int).tmod 16 = (r : Nat)) := Lib.hid (by rw [← hr]; rfl)
  have HMR : Hid (N = 16 * m + r ∧ N / 16 = m ∧ N % 16 = r) := Lib.hid (by omega)
  clear hm hr
  go_upto_region 6 with fail
  refine wp_region_lit ?_
  refine Step.p_move rfl _ rfl (.slice (some ⟨gb, 0, none⟩) N c) rfl ?_
  simp only [Act.put, List.setIfInBounds_toArray, List.set_cons_zero, List.set_cons_succ]
  refine Step.p_len rfl _ _ 5 rfl (_) (N) (c) rfl Tryz.underlying22 ?_
  simp only [Act.put, List.setIfInBounds_toArray, List.set_cons_zero, List.set_cons_succ]
  refine Step.p_val rfl (.int .i64 m) (by unfold execOp; have := HM.out; go_simp; try (first | exact IntWalk.i64_in _ (by omega) | omega | (rw [HM.out]; exact IntWalk.i64_in _ (by omega)))) ?_
  simp only [Act.put, List.setIfInBounds_toArray, List.set_cons_zero, List.set_cons_succ]
  refine Step.p_assign rfl _ rfl (.int .i64 m) rfl ?_
  simp only [Act.put, List.setIfInBounds_toArray, List.set_cons_zero, List.set_cons_succ]
  refine wpList_nil ?_
  go_upto_region 7 with fail
  refine wp_region_lit ?_
  refine Step.p_move rfl _ rfl (.slice (some ⟨gb, 0, none⟩) N c) rfl ?_
  simp only [Act.put, List.setIfInBounds_toArray, List.set_cons_zero, List.set_cons_succ]
  refine Step.p_len rfl _ _ 5 rfl (_) (N) (c) rfl Tryz.underlying22 ?_
  simp only [Act.put, List.setIfInBounds_toArray, List.set_cons_zero, List.set_cons_succ]
  refine Step.p_val rfl (.int .i64 r) (by unfold execOp; have := HR.out; go_simp; try (first | exact HR.out | rw [HR.out] | omega)) ?_
  simp only [Act.put, List.setIfInBounds_toArray, List.set_cons_zero, List.set_cons_succ]
  refine Step.p_assign rfl _ rfl (.int .i64 r) rfl ?_
  simp only [Act.put, List.setIfInBounds_toArray, List.set_cons_zero, List.set_cons_succ]
  refine wpList_nil ?_
  go_upto_region 8 with fail
  refine wp_region_lit ?_
  refine Step.p_move rfl _ rfl (.pointer (some ⟨cb, 0, none⟩)) rfl ?_
  simp only [Act.put, List.setIfInBounds_toArray, List.set_cons_zero, List.set_cons_succ]
  refine Step.p_move rfl _ rfl (.int .u64 s) rfl ?_
  simp only [Act.put, List.setIfInBounds_toArray, List.set_cons_zero, List.set_cons_succ]
  refine Step.p_move rfl _ rfl (.slice (some ⟨gb, 0, none⟩) N c) rfl ?_
  simp only [Act.put, List.setIfInBounds_toArray, List.set_cons_zero, List.set_cons_succ]
  refine Step.p_wp rfl (Step.w_callx 14 [.tmp 39, .tmp 40, .tmp 41] _ rfl Tryz.func14 (by kernel_rfl) rfl [.pointer (some ⟨cb, 0, none⟩), .int .u64 s, .slice (some ⟨gb, 0, none⟩) N c] rfl (seal_any w6 CG.out (Nat.lt_of_lt_of_le hrl B6.out.size) s hs gb 0 N c (.inl rfl) F1 (by omega) fB FL.out BB.out) ?_)
  rintro e w7 ⟨g1, rfl, hsec, _, hb⟩
  refine ⟨_, rfl, ?_⟩
  simp only [Act.put, List.setIfInBounds_toArray, List.set_cons_zero, List.set_cons_succ]
  have X1 := Lib.hid hsec
  have B7 := Lib.hid (B6.out.trans (hb.mono B6.out.size))
  have C7 := Lib.hid (CG.out.kp (Kp.of_below hb))
  have BB7 := Lib.hid (BB.out.below hb)
  clear hb hsec B6 CG BB
  refine Step.p_move rfl _ rfl (.tuple #[.slice (some ⟨g1, 0, none⟩) N N, .int .i64 0]) rfl ?_
  simp only [Act.put, List.setIfInBounds_toArray, List.set_cons_zero, List.set_cons_succ]
  refine Step.p_val rfl (.slice (some ⟨g1, 0, none⟩) N N) (by unfold execOp; go_simp; try rfl) ?_
  simp only [Act.put, List.setIfInBounds_toArray, List.set_cons_zero, List.set_cons_succ]
  refine Step.p_val rfl (.int .i64 0) (by unfold execOp; go_simp; try rfl) ?_
  simp only [Act.put, List.setIfInBounds_toArray, List.set_cons_zero, List.set_cons_succ]
  refine Step.p_assign rfl _ rfl (.slice (some ⟨g1, 0, none⟩) N N) rfl ?_
  simp only [Act.put, List.setIfInBounds_toArray, List.set_cons_zero, List.set_cons_succ]
  refine Step.p_assign rfl _ rfl (.int .i64 0) rfl ?_
  simp only [Act.put, List.setIfInBounds_toArray, List.set_cons_zero, List.set_cons_succ]
  refine wpList_nil ?_
  go_upto_region 9 with fail
  refine wp_region_lit ?_
  refine Step.p_move rfl _ rfl (.pointer (some ⟨cb, 0, none⟩)) rfl ?_
  simp only [Act.put, List.setIfInBounds_toArray, List.set_cons_zero, List.set_cons_succ]
  refine Step.p_move rfl _ rfl (.int .u64 s) rfl ?_
  simp only [Act.put, List.setIfInBounds_toArray, List.set_cons_zero, List.set_cons_succ]
  refine Step.p_move rfl _ rfl (.slice (some ⟨gb, 0, none⟩) N c) rfl ?_
  simp only [Act.put, List.setIfInBounds_toArray, List.set_cons_zero, List.set_cons_succ]
  refine Step.p_move rfl _ rfl (.int .i64 m) rfl ?_
  simp only [Act.put, List.setIfInBounds_toArray, List.set_cons_zero, List.set_cons_succ]
  refine Step.p_val rfl (.int .i64 (16 * m : Nat)) (by unfold execOp; go_simp; try (first | rfl | omega | exact (IntWalk.i64_in _ (by omega)).trans (by omega) | exact IntWalk.i64_in _ (by omega))) ?_
  simp only [Act.put, List.setIfInBounds_toArray, List.set_cons_zero, List.set_cons_succ]
  refine Step.p_val rfl (.slice (some ⟨gb, 0, none⟩) (16 * m) c) (by unfold execOp; have := HMR.out; go_simp; rw [if_pos ⟨by omega, by omega⟩, show (16 * (m : Int)).toNat = 16 * m by omega]) ?_
  simp only [Act.put, List.setIfInBounds_toArray, List.set_cons_zero, List.set_cons_succ]
  refine Step.p_wp rfl (Step.w_callx 14 [.tmp 46, .tmp 47, .tmp 51] _ rfl Tryz.func14 (by kernel_rfl) rfl [.pointer (some ⟨cb, 0, none⟩), .int .u64 s, .slice (some ⟨gb, 0, none⟩) (16 * m) c] rfl (seal_any w7 C7.out (Nat.lt_of_lt_of_le hrl B7.out.size) s hs gb 0 (16 * m) c (.inl rfl) (by omega) (by have := HMR.out; omega) fB FL.out (fun i hi => BB7.out i (by have := HMR.out; omega))) ?_)
  rintro e w8 ⟨g2, rfl, hsec, _, hb⟩
  refine ⟨_, rfl, ?_⟩
  simp only [Act.put, List.setIfInBounds_toArray, List.set_cons_zero, List.set_cons_succ]
  have X2 := Lib.hid hsec
  have X18 := Lib.hid (X1.out.below hb)
  have B8 := Lib.hid (B7.out.trans (hb.mono B7.out.size))
  clear hb hsec B7 C7 BB7 X1
  refine Step.p_move rfl _ rfl (.tuple #[.slice (some ⟨g2, 0, none⟩) (16 * m) (16 * m), .int .i64 0]) rfl ?_
  simp only [Act.put, List.setIfInBounds_toArray, List.set_cons_zero, List.set_cons_succ]
  refine Step.p_val rfl (.slice (some ⟨g2, 0, none⟩) (16 * m) (16 * m)) (by unfold execOp; go_simp; try rfl) ?_
  simp only [Act.put, List.setIfInBounds_toArray, List.set_cons_zero, List.set_cons_succ]
  refine Step.p_val rfl (.int .i64 0) (by unfold execOp; go_simp; try rfl) ?_
  simp only [Act.put, List.setIfInBounds_toArray, List.set_cons_zero, List.set_cons_succ]
  refine Step.p_assign rfl _ rfl (.slice (some ⟨g2, 0, none⟩) (16 * m) (16 * m)) rfl ?_
  simp only [Act.put, List.setIfInBounds_toArray, List.set_cons_zero, List.set_cons_succ]
  refine Step.p_assign rfl _ rfl (.int .i64 0) rfl ?_
  simp only [Act.put, List.setIfInBounds_toArray, List.set_cons_zero, List.set_cons_succ]
  refine wpList_nil ?_
  go_upto_region 10 with fail
  refine wp_region_lit ?_
  refine Step.p_move rfl _ rfl (.int .i64 0) rfl ?_
  simp only [Act.put, List.setIfInBounds_toArray, List.set_cons_zero, List.set_cons_succ]
  refine Step.p_wp rfl (Step.w_callx 15 [.tmp 55] _ rfl Tryz.func15 (by kernel_rfl) rfl [.int .i64 0] rfl (num_any 0 _) ?_)
  rintro e w9 ⟨rfl, hw⟩
  refine ⟨_, rfl, ?_⟩
  simp only [Act.put, List.setIfInBounds_toArray, List.set_cons_zero, List.set_cons_succ]
  subst hw
  refine Step.p_val rfl (.bool false) (by unfold execOp; go_simp; try rfl) ?_
  simp only [Act.put, List.setIfInBounds_toArray, List.set_cons_zero, List.set_cons_succ]
  refine Step.p_move rfl _ rfl (.bool false) rfl ?_
  simp only [Act.put, List.setIfInBounds_toArray, List.set_cons_zero, List.set_cons_succ]
  refine Step.p_move rfl _ rfl (.int .i64 0) rfl ?_
  simp only [Act.put, List.setIfInBounds_toArray, List.set_cons_zero, List.set_cons_succ]
  refine Step.p_wp rfl (Step.w_callx 15 [.tmp 59] _ rfl Tryz.func15 (by kernel_rfl) rfl [.int .i64 0] rfl (num_any 0 _) ?_)
  rintro e w9 ⟨rfl, hw⟩
  refine ⟨_, rfl, ?_⟩
  simp only [Act.put, List.setIfInBounds_toArray, List.set_cons_zero, List.set_cons_succ]
  subst hw
  refine Step.p_val rfl (.bool false) (by unfold execOp; go_simp; try rfl) ?_
  simp only [Act.put, List.setIfInBounds_toArray, List.set_cons_zero, List.set_cons_succ]
  refine Step.p_pick rfl _ _ _ rfl false rfl (.bool false) rfl ?_
  simp only [Act.put, List.setIfInBounds_toArray, List.set_cons_zero, List.set_cons_succ]
  refine Step.p_move rfl _ rfl (.bool false) rfl ?_
  simp only [Act.put, List.setIfInBounds_toArray, List.set_cons_zero, List.set_cons_succ]
  refine Step.p_move rfl _ rfl (.slice (some ⟨g1, 0, none⟩) N N) rfl ?_
  simp only [Act.put, List.setIfInBounds_toArray, List.set_cons_zero, List.set_cons_succ]
  refine Step.p_len rfl _ _ 5 rfl (_) (N) (N) rfl Tryz.underlying22 ?_
  simp only [Act.put, List.setIfInBounds_toArray, List.set_cons_zero, List.set_cons_succ]
  refine Step.p_move rfl _ rfl (.slice (some ⟨gb, 0, none⟩) N c) rfl ?_
  simp only [Act.put, List.setIfInBounds_toArray, List.set_cons_zero, List.set_cons_succ]
  refine Step.p_len rfl _ _ 5 rfl (_) (N) (c) rfl Tryz.underlying22 ?_
  simp only [Act.put, List.setIfInBounds_toArray, List.set_cons_zero, List.set_cons_succ]
  refine Step.p_val rfl (.bool false) (by unfold execOp; go_simp; try rfl) ?_
  simp only [Act.put, List.setIfInBounds_toArray, List.set_cons_zero, List.set_cons_succ]
  refine Step.p_pick rfl _ _ _ rfl false rfl (.bool false) rfl ?_
  simp only [Act.put, List.setIfInBounds_toArray, List.set_cons_zero, List.set_cons_succ]
  refine Step.p_move rfl _ rfl (.bool false) rfl ?_
  simp only [Act.put, List.setIfInBounds_toArray, List.set_cons_zero, List.set_cons_succ]
  refine Step.p_move rfl _ rfl (.slice (some ⟨g2, 0, none⟩) (16 * m) (16 * m)) rfl ?_
  simp only [Act.put, List.setIfInBounds_toArray, List.set_cons_zero, List.set_cons_succ]
  refine Step.p_len rfl _ _ 5 rfl (_) (16 * m) (16 * m) rfl Tryz.underlying22 ?_
  simp only [Act.put, List.setIfInBounds_toArray, List.set_cons_zero, List.set_cons_succ]
  refine Step.p_move rfl _ rfl (.int .i64 m) rfl ?_
  simp only [Act.put, List.setIfInBounds_toArray, List.set_cons_zero, List.set_cons_succ]
  refine Step.p_val rfl (.int .i64 (16 * m : Nat)) (by unfold execOp; go_simp; try (first | rfl | omega | exact (IntWalk.i64_in _ (by omega)).trans (by omega) | exact IntWalk.i64_in _ (by omega))) ?_
  simp only [Act.put, List.setIfInBounds_toArray, List.set_cons_zero, List.set_cons_succ]
  refine Step.p_val rfl (.bool false) (by unfold execOp; go_simp; try rfl) ?_
  simp only [Act.put, List.setIfInBounds_toArray, List.set_cons_zero, List.set_cons_succ]
  refine Step.p_pick rfl _ _ _ rfl false rfl (.bool false) rfl ?_
  simp only [Act.put, List.setIfInBounds_toArray, List.set_cons_zero, List.set_cons_succ]
  refine wpList_nil ?_
  go_upto_region 12 with fail
  refine wp_region_lit ?_
  refine Step.p_move rfl _ rfl (.int .i64 r) rfl ?_
  simp only [Act.put, List.setIfInBounds_toArray, List.set_cons_zero, List.set_cons_succ]
  refine Step.p_val rfl (.bool (decide (r = 0))) (by unfold execOp; go_simp; try (first | rfl | (by_cases h : r = 0 <;> simp [h]))) ?_
  simp only [Act.put, List.setIfInBounds_toArray, List.set_cons_zero, List.set_cons_succ]
  refine wpList_nil ?_
  by_cases hr0 : r = 0
  · skip
    obtain rfl : N = 16 * m := by have := HMR.out; omega
    have SB := Lib.hid (sameBytes_any (some ⟨g1, 0, none⟩) (some ⟨g2, 0, none⟩) (16 * m) (16 * m) (16 * m) (xtsF E false (T s) (16 * m) fB) w8 (by unfold maxLen; omega) (fun i hi => ⟨g1, 0, rfl, by rw [Nat.zero_add]; exact X18.out.cell hi⟩) (fun i hi => ⟨g2, 0, rfl, by rw [Nat.zero_add, X2.out.cell hi]⟩))
    clear X18 X2
    go_upto_region 13 with fail
    refine wp_region_lit ?_
    refine Step.p_move rfl _ rfl (.slice (some ⟨g1, 0, none⟩) (16 * m) (16 * m)) rfl ?_
    simp only [Act.put, List.setIfInBounds_toArray, List.set_cons_zero, List.set_cons_succ]
    refine Step.p_move rfl _ rfl (.slice (some ⟨g2, 0, none⟩) (16 * m) (16 * m)) rfl ?_
    simp only [Act.put, List.setIfInBounds_toArray, List.set_cons_zero, List.set_cons_succ]
    refine Step.p_wp rfl (Step.w_callx 17 [.tmp 79, .tmp 80] _ rfl Tryz.func17 (by kernel_rfl) rfl [.slice (some ⟨g1, 0, none⟩) (16 * m) (16 * m), .slice (some ⟨g2, 0, none⟩) (16 * m) (16 * m)] rfl (SB.out) ?_)
    rintro e w10 ⟨rfl, hb⟩
    refine ⟨_, rfl, ?_⟩
    simp only [Act.put, List.setIfInBounds_toArray, List.set_cons_zero, List.set_cons_succ]
    have B9 := Lib.hid (B8.out.trans (hb.mono B8.out.size))
    clear hb SB B8
    refine Step.p_assign rfl _ rfl (.bool true) rfl ?_
    simp only [Act.put, List.setIfInBounds_toArray, List.set_cons_zero, List.set_cons_succ]
    refine wpList_nil ?_
    go_wp2
    go_ret
    exact ⟨rfl, B9.out⟩
  · skip
    have hmr := HMR.out
    have SA := Lib.hid (fun w' (hb : Below w8.heap.size w8 w') => sameBytes_any (some ⟨g1, 0, none⟩) (some ⟨g2, 0, none⟩) (16 * m - 16) N (16 * m) (xtsF E false (T s) N fB) w' (by unfold maxLen; omega) (fun i hi => ⟨g1, 0, rfl, by rw [Nat.zero_add]; exact (X18.out.below hb).cell (by omega)⟩) (fun i hi => ⟨g2, 0, rfl, by
      rw [Nat.zero_add, (X2.out.below hb).cell (by omega)]
      have h := steals_head E (T s) N fB i (by omega) (by rw [hmr.2.1]; exact hi)
      rw [hmr.2.1] at h
      exact congrArg (fun x : Nat => some (Value.int .u8 (x : Int))) h.symm⟩))
    have SC := Lib.hid (fun w' (hb : Below w8.heap.size w8 w') => sameBytes_any (some ⟨g1, 16 * m, none⟩) (some ⟨g2, 16 * m - 16, none⟩) r (N - 16 * m) (16 * m - (16 * m - 16)) (fun i => xtsF E false (T s) N fB (16 * m + i)) w' (by unfold maxLen; omega) (fun i hi => ⟨g1, 16 * m, rfl, (X18.out.below hb).cell (by omega)⟩) (fun i hi => ⟨g2, 16 * m - 16, rfl, by
      rw [(X2.out.below hb).cell (by omega)]
      have h := steals_tail E (T s) N fB i F1 (by omega) (by omega)
      rw [hmr.2.1] at h
      exact congrArg (fun x : Nat => some (Value.int .u8 (x : Int))) h.symm⟩))
    clear X18 X2 hmr
    go_upto_region 14 with fail
    refine Step.begin_ (S := fun w' => Below w8.heap.size w8 w') 29 rfl (by kernel_rfl) (Below.refl _ _).drew ?_
    intro hSS
    have Y1 := Lib.hid hSS
    clear hSS
    refine Step.t_move (i := 0) rfl rfl (by kernel_rfl) (by kernel_rfl) (by kernel_rfl) Y1.out _ rfl (.slice (some ⟨g1, 0, none⟩) N N) rfl ?_
    simp only [Act.put, List.setIfInBounds_toArray, List.set_cons_zero, List.set_cons_succ]
    refine Step.t_move (i := 1) rfl rfl (by kernel_rfl) (by kernel_rfl) (by kernel_rfl) Y1.out _ rfl (.int .i64 (m : Nat)) rfl ?_
    simp only [Act.put, List.setIfInBounds_toArray, List.set_cons_zero, List.set_cons_succ]
    refine Step.t_move (i := 5) rfl rfl (by kernel_rfl) (by kernel_rfl) (by kernel_rfl) Y1.out _ rfl (.slice (some ⟨g2, 0, none⟩) (16 * m) (16 * m)) rfl ?_
    simp only [Act.put, List.setIfInBounds_toArray, List.set_cons_zero, List.set_cons_succ]
    refine Step.t_move (i := 6) rfl rfl (by kernel_rfl) (by kernel_rfl) (by kernel_rfl) Y1.out _ rfl (.int .i64 (m : Nat)) rfl ?_
    simp only [Act.put, List.setIfInBounds_toArray, List.set_cons_zero, List.set_cons_succ]
    refine Step.t_val (i := 2) rfl rfl (by kernel_rfl) (by kernel_rfl) (by kernel_rfl) Y1.out (.int .i64 (16 * m : Nat)) (fun w' _ => by unfold execOp; go_simp; try (first | rfl | omega | exact (IntWalk.i64_in _ (by omega)).trans (by omega) | exact IntWalk.i64_in _ (by omega))) ?_
    simp only [Act.put, List.setIfInBounds_toArray, List.set_cons_zero, List.set_cons_succ]
    refine Step.t_val (i := 7) rfl rfl (by kernel_rfl) (by kernel_rfl) (by kernel_rfl) Y1.out (.int .i64 (16 * m : Nat)) (fun w' _ => by unfold execOp; go_simp; try (first | rfl | omega | exact (IntWalk.i64_in _ (by omega)).trans (by omega) | exact IntWalk.i64_in _ (by omega))) ?_
    simp only [Act.put, List.setIfInBounds_toArray, List.set_cons_zero, List.set_cons_succ]
    refine Step.t_val (i := 3) rfl rfl (by kernel_rfl) (by kernel_rfl) (by kernel_rfl) Y1.out (.int .i64 (16 * m - 16 : Nat)) (fun w' _ => by unfold execOp; go_simp; try (first | rfl | omega | exact (IntWalk.i64_in _ (by omega)).trans (by omega) | exact IntWalk.i64_in _ (by omega))) ?_
    simp only [Act.put, List.setIfInBounds_toArray, List.set_cons_zero, List.set_cons_succ]
    refine Step.t_val (i := 8) rfl rfl (by kernel_rfl) (by kernel_rfl) (by kernel_rfl) Y1.out (.int .i64 (16 * m - 16 : Nat)) (fun w' _ => by unfold execOp; go_simp; try (first | rfl | omega | exact (IntWalk.i64_in _ (by omega)).trans (by omega) | exact IntWalk.i64_in _ (by omega))) ?_
    simp only [Act.put, List.setIfInBounds_toArray, List.set_cons_zero, List.set_cons_succ]
    refine Step.t_val (i := 4) rfl rfl (by kernel_rfl) (by kernel_rfl) (by kernel_rfl) Y1.out (.slice (some ⟨g1, 0, none⟩) (16 * m - 16) N) (fun w' _ => by unfold execOp; have hq := HMR.out; go_simp; first | (intro h; omega) | (rw [if_pos ⟨by omega, by omega⟩]; try rfl)) ?_
    simp only [Act.put, List.setIfInBounds_toArray, List.set_cons_zero, List.set_cons_succ]
    refine Step.t_val (i := 9) rfl rfl (by kernel_rfl) (by kernel_rfl) (by kernel_rfl) Y1.out (.slice (some ⟨g2, 0, none⟩) (16 * m - 16) (16 * m)) (fun w' _ => by unfold execOp; go_simp; first | (intro h; omega) | (rw [if_pos ⟨by omega, by omega⟩]; try rfl)) ?_
    simp only [Act.put, List.setIfInBounds_toArray, List.set_cons_zero, List.set_cons_succ]
    refine Step.t_one (i := 10) rfl rfl (by kernel_rfl) ?_
    refine Step.w_callx 17 _ _ rfl Tryz.func17 (by kernel_rfl) rfl [.slice (some ⟨g1, 0, none⟩) (16 * m - 16) N, .slice (some ⟨g2, 0, none⟩) (16 * m - 16) (16 * m)] rfl (SA.out _ Y1.out) ?_
    rintro e wz ⟨rfl, hb⟩
    have Y6 := Lib.hid (Y1.out.trans (hb.mono Y1.out.size))
    clear hb Y1
    refine ⟨_, rfl, Y6.out, ?_⟩
    simp only [Act.put, List.setIfInBounds_toArray, List.set_cons_zero, List.set_cons_succ]
    refine Step.t_move (i := 11) rfl rfl (by kernel_rfl) (by kernel_rfl) (by kernel_rfl) Y6.out _ rfl (.bool true) rfl ?_
    simp only [Act.put, List.setIfInBounds_toArray, List.set_cons_zero, List.set_cons_succ]
    refine Step.t_move (i := 12) rfl rfl (by kernel_rfl) (by kernel_rfl) (by kernel_rfl) Y6.out _ rfl (.slice (some ⟨g1, 0, none⟩) N N) rfl ?_
    simp only [Act.put, List.setIfInBounds_toArray, List.set_cons_zero, List.set_cons_succ]
    refine Step.t_move (i := 13) rfl rfl (by kernel_rfl) (by kernel_rfl) (by kernel_rfl) Y6.out _ rfl (.int .i64 (m : Nat)) rfl ?_
    simp only [Act.put, List.setIfInBounds_toArray, List.set_cons_zero, List.set_cons_succ]
    refine Step.t_move (i := 16) rfl rfl (by kernel_rfl) (by kernel_rfl) (by kernel_rfl) Y6.out _ rfl (.slice (some ⟨g2, 0, none⟩) (16 * m) (16 * m)) rfl ?_
    simp only [Act.put, List.setIfInBounds_toArray, List.set_cons_zero, List.set_cons_succ]
    refine Step.t_move (i := 17) rfl rfl (by kernel_rfl) (by kernel_rfl) (by kernel_rfl) Y6.out _ rfl (.int .i64 (m : Nat)) rfl ?_
    simp only [Act.put, List.setIfInBounds_toArray, List.set_cons_zero, List.set_cons_succ]
    refine Step.t_move (i := 20) rfl rfl (by kernel_rfl) (by kernel_rfl) (by kernel_rfl) Y6.out _ rfl (.int .i64 (m : Nat)) rfl ?_
    simp only [Act.put, List.setIfInBounds_toArray, List.set_cons_zero, List.set_cons_succ]
    refine Step.t_move (i := 23) rfl rfl (by kernel_rfl) (by kernel_rfl) (by kernel_rfl) Y6.out _ rfl (.int .i64 (r : Nat)) rfl ?_
    simp only [Act.put, List.setIfInBounds_toArray, List.set_cons_zero, List.set_cons_succ]
    refine Step.t_val (i := 14) rfl rfl (by kernel_rfl) (by kernel_rfl) (by kernel_rfl) Y6.out (.int .i64 (16 * m : Nat)) (fun w' _ => by unfold execOp; go_simp; try (first | rfl | omega | exact (IntWalk.i64_in _ (by omega)).trans (by omega) | exact IntWalk.i64_in _ (by omega))) ?_
    simp only [Act.put, List.setIfInBounds_toArray, List.set_cons_zero, List.set_cons_succ]
    refine Step.t_val (i := 18) rfl rfl (by kernel_rfl) (by kernel_rfl) (by kernel_rfl) Y6.out (.int .i64 (16 * m : Nat)) (fun w' _ => by unfold execOp; go_simp; try (first | rfl | omega | exact (IntWalk.i64_in _ (by omega)).trans (by omega) | exact IntWalk.i64_in _ (by omega))) ?_
    simp only [Act.put, List.setIfInBounds_toArray, List.set_cons_zero, List.set_cons_succ]
    refine Step.t_val (i := 21) rfl rfl (by kernel_rfl) (by kernel_rfl) (by kernel_rfl) Y6.out (.int .i64 (16 * m : Nat)) (fun w' _ => by unfold execOp; go_simp; try (first | rfl | omega | exact (IntWalk.i64_in _ (by omega)).trans (by omega) | exact IntWalk.i64_in _ (by omega))) ?_
    simp only [Act.put, List.setIfInBounds_toArray, List.set_cons_zero, List.set_cons_succ]
    refine Step.t_val (i := 15) rfl rfl (by kernel_rfl) (by kernel_rfl) (by kernel_rfl) Y6.out (.slice (some ⟨g1, 16 * m, none⟩) r (N - 16 * m)) (fun w' _ => by unfold execOp; have e1 : N - 16 * m = r := (by have := HMR.out; omega); have e2 : 16 * m ≤ N ∧ ¬ N = 16 * m := (by have := HMR.out; omega); go_simp; rw [if_pos ⟨by omega, by omega⟩, show (16 * (m : Int)).toNat = 16 * m by omega, if_neg e2.2, e1]) ?_
    simp only [Act.put, List.setIfInBounds_toArray, List.set_cons_zero, List.set_cons_succ]
    refine Step.t_val (i := 19) rfl rfl (by kernel_rfl) (by kernel_rfl) (by kernel_rfl) Y6.out (.int .i64 (16 * m - 16 : Nat)) (fun w' _ => by unfold execOp; go_simp; try (first | rfl | omega | exact (IntWalk.i64_in _ (by omega)).trans (by omega) | exact IntWalk.i64_in _ (by omega))) ?_
    simp only [Act.put, List.setIfInBounds_toArray, List.set_cons_zero, List.set_cons_succ]
    refine Step.t_val (i := 22) rfl rfl (by kernel_rfl) (by kernel_rfl) (by kernel_rfl) Y6.out (.int .i64 (16 * m - 16 : Nat)) (fun w' _ => by unfold execOp; go_simp; try (first | rfl | omega | exact (IntWalk.i64_in _ (by omega)).trans (by omega) | exact IntWalk.i64_in _ (by omega))) ?_
    simp only [Act.put, List.setIfInBounds_toArray, List.set_cons_zero, List.set_cons_succ]
    refine Step.t_val (i := 24) rfl rfl (by kernel_rfl) (by kernel_rfl) (by kernel_rfl) Y6.out (.int .i64 (16 * m - 16 + r : Nat)) (fun w' _ => by unfold execOp; go_simp; try (first | rfl | omega | exact (IntWalk.i64_in _ (by omega)).trans (by omega) | exact IntWalk.i64_in _ (by omega))) ?_
    simp only [Act.put, List.setIfInBounds_toArray, List.set_cons_zero, List.set_cons_succ]
    refine Step.t_val (i := 25) rfl rfl (by kernel_rfl) (by kernel_rfl) (by kernel_rfl) Y6.out (.slice (some ⟨g2, 16 * m - 16, none⟩) r (16 * m - (16 * m - 16))) (fun w' _ => by unfold execOp; go_simp; rw [if_pos ⟨by omega, by omega⟩]; rw [show (((16 * m - 16 : Nat) : Int) + (r : Int)).toNat = 16 * m - 16 + r by omega]; rw [show 16 * m - 16 + r - (16 * m - 16) = r by omega]; rw [if_pos (by omega), if_neg (by omega)]) ?_
    simp only [Act.put, List.setIfInBounds_toArray, List.set_cons_zero, List.set_cons_succ]
    refine Step.t_one (i := 26) rfl rfl (by kernel_rfl) ?_
    refine Step.w_callx 17 _ _ rfl Tryz.func17 (by kernel_rfl) rfl [.slice (some ⟨g1, 16 * m, none⟩) r (N - 16 * m), .slice (some ⟨g2, 16 * m - 16, none⟩) r (16 * m - (16 * m - 16))] rfl (SC.out _ Y6.out) ?_
    rintro e wz ⟨rfl, hb⟩
    have Y7 := Lib.hid (Y6.out.trans (hb.mono Y6.out.size))
    clear hb Y6
    refine ⟨_, rfl, Y7.out, ?_⟩
    simp only [Act.put, List.setIfInBounds_toArray, List.set_cons_zero, List.set_cons_succ]
    refine Step.t_val (i := 27) rfl rfl (by kernel_rfl) (by kernel_rfl) (by kernel_rfl) Y7.out (.bool true) (fun w' _ => by unfold execOp; go_simp; try rfl) ?_
    simp only [Act.put, List.setIfInBounds_toArray, List.set_cons_zero, List.set_cons_succ]
    refine Step.t_assign (i := 28) rfl rfl (by kernel_rfl) (by kernel_rfl) (by kernel_rfl) Y7.out _ rfl (.bool true) rfl ?_
    simp only [Act.put, List.setIfInBounds_toArray, List.set_cons_zero, List.set_cons_succ]
    refine Step.t_end (by kernel_rfl) ?_
    have B9 := Lib.hid (B8.out.trans (Y7.out.mono B8.out.size))
    clear Y7 B8
    go_wp2
    go_ret
    exact ⟨rfl, B9.out⟩
end Go.Proofs.YtmifebcaifbmoaaGreatDoor.TSteals
end
