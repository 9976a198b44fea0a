/- Parts of the proof of TweakBlocks. Run: tweak.asLRW's function: a sector sealed or opened, block by block. Seal: tweak: Seal of a cipher of LRW. -/
import Derived.Test.YtmifebcaifbmoaaGreatDoorL00
import Derived.Test.YtmifebcaifbmoaaGreatDoorL17
/- Run -/
section
namespace Go.Proofs.YtmifebcaifbmoaaGreatDoor.Tw
open Go.RowKit Go.Lib Go.Proofs.YtmifebcaifbmoaaGreatDoor.Blk Go.Proofs.YtmifebcaifbmoaaGreatDoor.Poly Go.Proofs.YtmifebcaifbmoaaGreatDoor.Field Go.Proofs.YtmifebcaifbmoaaGreatDoor.Tab

/-- the number of block j of sector s -/
def aN (s n j : Nat) : Nat := (s * (n / 16) + 1 + j) % 2 ^ 128
/-- the tweak of a number -/
def tw (F a : Nat) : Nat := revN (timesN (revN F) (revN (revN a)) 128)
def lrwB (E : Nat → Nat) (F s n : Nat) (f : Nat → Nat) (j : Nat) : Nat := E (blkN f j ^^^ tw F (aN s n j)) ^^^ tw F (aN s n j)
/-- the bytes behind k blocks -/
def lrwF (E : Nat → Nat) (F s n : Nat) (f : Nat → Nat) (k i : Nat) : Nat := if i / 16 < k then byt (lrwB E F s n f (i / 16)) (i % 16) else f i
theorem lrwF_lt {E : Nat → Nat} {F s n : Nat} {f : Nat → Nat} (hf : ∀ i, f i < 256) (k i : Nat) : lrwF E F s n f k i < 256 := by
  unfold lrwF
  split
  · exact byt_lt _ _
  · exact hf i
theorem lrw_blk (E : Nat → Nat) (F s n : Nat) (f : Nat → Nat) (k : Nat) : blkN (lrwF E F s n f k) k = blkN f k := by
  refine lowN_congr fun i hi => ?_
  unfold lrwF
  rw [if_neg (by omega)]
theorem lrw_put (E : Nat → Nat) (F s n : Nat) (f : Nat → Nat) (k i : Nat) : putF (lrwF E F s n f k) k (lrwB E F s n f k) i = lrwF E F s n f (k + 1) i := by
  unfold putF lrwF
  by_cases h : 16 * k ≤ i ∧ i < 16 * k + 16
  · rw [if_pos h, if_pos (by omega), show i / 16 = k by omega, show i % 16 = i - 16 * k by omega]
  · rw [if_neg h]
    by_cases h2 : i / 16 < k
    · rw [if_pos h2, if_pos (by omega)]
    · rw [if_neg h2, if_neg (by omega)]
theorem aN_succ (s n j : Nat) : (aN s n j + 1) % 2 ^ 128 = aN s n (j + 1) := by
  unfold aN
  rw [Nat.mod_add_mod, Nat.add_assoc _ j 1]
/-- what the function reads of its cipher -/
structure RunE (f : FuncId) (x d p xb cb gk F : Nat) (v : Value) (w : World) : Prop where
  cx : w.cell? ⟨x, 0, none⟩ = some (.pointer (some ⟨cb, 0, none⟩))
  cd : w.cell? ⟨d, 0, none⟩ = some (.func (.func 167) #[] #[.pointer (some ⟨p, 0, none⟩)])
  cp : w.cell? ⟨p, 0, none⟩ = some (.func (.func f) #[] #[])
  c0 : w.cell? ⟨cb, 0, none⟩ = some (.pointer (some ⟨xb, 0, none⟩))
  c1 : w.cell? ⟨cb, 1, none⟩ = some (.pointer (some ⟨gk, 14 * 7, none⟩))
  k0 : ∃ s, w.cell? ⟨gk, 0, none⟩ = some (.string s)
  ks : w.cell? ⟨gk, 14 * 7 + 3, none⟩ = some (fv 70)
  n0 : ∃ s, w.cell? ⟨xb, 0, none⟩ = some (.string s)
  m : w.cell? ⟨xb, 2, none⟩ = some v
  fl : w.rangeAt xb 4 (arr .u8 16 fun i => ((byt F i : Nat) : Int)).toList
theorem ne_u8 {w : World} {b g : Nat} {u : Value} {z : Int} (h1 : w.cell? ⟨b, 0, none⟩ = some u) (h2 : w.cell? ⟨g, 0, none⟩ = some (.int .u8 z)) (hu : ∀ z, u ≠ .int .u8 z) : b ≠ g := fun e => by
  subst e
  rw [h1] at h2
  exact hu z (Option.some.inj h2)
theorem RunE.gb {f : FuncId} {x d p xb cb gk F : Nat} {v : Value} {w w' : World} {g : Nat} {z : Int} (h : RunE f x d p xb cb gk F v w) (hz : w.cell? ⟨g, 0, none⟩ = some (.int .u8 z)) (hg : w.grownBy w' (some g)) : RunE f x d p xb cb gk F v w' := by
  obtain ⟨s1, e1⟩ := h.k0
  obtain ⟨s2, e2⟩ := h.n0
  have nx := ne_u8 h.cx hz (fun z e => by cases e)
  have nd := ne_u8 h.cd hz (fun z e => by cases e)
  have np := ne_u8 h.cp hz (fun z e => by cases e)
  have nc := ne_u8 h.c0 hz (fun z e => by cases e)
  have nk := ne_u8 e1 hz (fun z e => by cases e)
  have nb := ne_u8 e2 hz (fun z e => by cases e)
  exact ⟨cell_gb hg nx h.cx, cell_gb hg nd h.cd, cell_gb hg np h.cp, cell_gb hg nc h.c0, cell_gb hg nc h.c1, ⟨s1, cell_gb hg nk e1⟩, cell_gb hg nk h.ks, ⟨s2, cell_gb hg nb e2⟩, cell_gb hg nb h.m, fun i u hi => cell_gb hg nb (h.fl i u hi)⟩
theorem gb_bel {w w' w2 : World} {g : Nat} (h : w.grownBy w' (some g)) (hb : Below w'.heap.size w' w2) : w.grownBy w2 (some g) := gb_trans h ⟨hb.os, hb.tape, hb.output, hb.size, fun k hk _ => hb.block k hk⟩
structure RunS (g ab : Nat) (h : Nat → Int) (w w' : World) : Prop where
  gb : w.grownBy w' (some g)
  at_ : Arr w' ab .u8 16 27 h

section
variable {P : Program} {a : Act} {w : World} {o : Oper} {K : Act → World → Prop} {Q : Exit → Act → World → Prop}
/-- a new array of numbers, all zero -/
theorem w_newarr (ty : TypeId) (ho : o.op = .alloc ty) (k : IntKind) (n : Nat) (hz : (P.info? ty).bind (·.zero) = some (.agg (arr k n fun _ => 0)))
    (h : ∀ w', Arr w' w.heap.size k n ty (fun _ => 0) → w.grownBy w' none → w'.heap.size = w.heap.size + 1 → K (a.put o.dst (.pointer (some ⟨w.heap.size, 0, none⟩))) w') : o.wp P a w K Q := by
  cases hie : P.info? ty with
  | none => simp [hie] at hz
  | some ie =>
    simp only [hie, Option.bind_some] at hz
    refine Step.w_run (.pointer (some ⟨w.heap.size, 0, none⟩)) (w.alloc (.cells (arr k n fun _ => 0) ty)) (by
      unfold execOp
      have h0 : (zeroValue ty).run P w = .ok (.agg (arr k n fun _ => 0)) w := by simp [zeroValue, typeInfo, hie, hz]
      simp [ho, Instr.alloc, newVar, newRow, go_sem, h0, Value.cells]) (h _ (Arr.new w k n ty _) (World.grownBy_alloc w _ none) (by simp))
end

set_option maxRecDepth 100000 in
set_option maxHeartbeats 8000000 in
theorem lrwRun_any (f : FuncId) {fn : Func} (hfn : Tryz.prog.funcs[f]? = some fn) (hnn : (fn.name == "runtime.NumGoroutine") = false) (hbn : fn.body.isNone = false) (E : Nat → Nat) (x d p xb cb gk F : Nat) (_hF : F < 2 ^ 128) (v : Value) (s : Nat) (hs : s < 2 ^ 64) (g n cap m : Nat) (hm : n = 16 * m) (hm0 : 1 ≤ m) (hn : n ≤ 4096) (hnc : n ≤ cap) (hcm : cap ≤ 9223372036854775807)
    (F0 : Nat → Nat) (hf : ∀ i, F0 i < 256) (w : World) (hR : RunE f x d p xb cb gk F v w) (hS : Sec w g n F0) (hD : ∀ w', w.grownBy w' (some g) → DoAt f v E w') :
    Calls Tryz.prog 136 #[.int .u64 s, .slice (some ⟨g, 0, none⟩) n cap, .pointer (some ⟨x, 0, none⟩), .pointer (some ⟨d, 0, none⟩)] w fun e w' => e = .returned (.tuple #[]) ∧ Sec w' g n (lrwF E F s n F0 m) ∧ w.grownBy w' (some g) := by
  have z16 : (Tryz.prog.info? 27).bind (·.zero) = some (.agg (arr .u8 16 fun _ => 0)) := by kernel_rfl
  have hz := hS.cell (i := 0) (by omega)
  have RE := Lib.hid (fun w' (h : w.grownBy w' (some g)) => hR.gb hz h)
  have HS := Lib.hid hS
  have HD := Lib.hid hD
  have SB := Lib.hid (fun c w => benbi_any c s n hs (by omega) w)
  have R0 := Lib.hid (fun w' (h : Below w.heap.size w w') => RE.out w' (gb_bel (gb_refl w (some g)) h))
  have HM := Lib.hid hm
  have hsm : s * (n / 16) ≤ 18446744073709551615 * 256 := Nat.mul_le_mul (by omega) (by omega)
  have A0 : aN s n 0 = s * (n / 16) + 1 := by
    unfold aN
    exact Nat.mod_eq_of_lt (by omega)
  rw [← A0] at SB
  clear hR hS hD hz hsm A0 hm
  go_enter Tryz.func136, Tryz.ntmps136
  go_upto_region 0 with fail
  go_cut [6] from 8 to 22 (fun q wx => ∃ ab, q = .pointer (some ⟨ab, 0, none⟩) ∧ w.heap.size ≤ ab ∧ Below w.heap.size w wx ∧ Arr wx ab .u8 16 27 (fun i => ((byt (revN (aN s n 0)) i : Nat) : Int)))
  case first =>
    refine Step.begin_ (S := fun w' => Below w.heap.size w w') 17 rfl (by kernel_rfl) (Below.refl _ _).drew ?_
    intro hS
    have SX := Lib.hid hS
    clear hS
    refine Tree.t_load1 (i := 0) rfl rfl (by kernel_rfl) (by kernel_rfl) (by kernel_rfl) SX.out _ _ rfl (x) (0) rfl (.pointer (some ⟨cb, 0, none⟩)) (fun w' h => (R0.out w' h).cx) Tryz.underlying30 rfl ?_
    simp only [Act.put, sA9, sB9, sC9]
    refine Step.t_val (i := 1) rfl rfl (by kernel_rfl) (by kernel_rfl) (by kernel_rfl) SX.out (.pointer (some ⟨cb, 0, none⟩)) (fun w' _ => by rfl) ?_
    simp only [Act.put, sA9, sB9, sC9]
    refine Tree.t_field (i := 2) rfl rfl (by kernel_rfl) (by kernel_rfl) (by kernel_rfl) SX.out _ _ _ rfl (cb) (0) rfl Tryz.underlying80 rfl (sz := 1) (by kernel_rfl) (by decide) (1) rfl ?_
    simp only [Act.put, sA9, sB9, sC9]
    refine Tree.t_load1 (i := 3) rfl rfl (by kernel_rfl) (by kernel_rfl) (by kernel_rfl) SX.out _ _ rfl (cb) (1) rfl (.pointer (some ⟨gk, 14 * 7, none⟩)) (fun w' h => (R0.out w' h).c1) Tryz.underlying77 rfl ?_
    simp only [Act.put, sA9, sB9, sC9]
    refine Step.t_val (i := 4) rfl rfl (by kernel_rfl) (by kernel_rfl) (by kernel_rfl) SX.out (.pointer (some ⟨gk, 14 * 7, none⟩)) (fun w' _ => by rfl) ?_
    simp only [Act.put, sA9, sB9, sC9]
    refine Tree.t_field (i := 5) rfl rfl (by kernel_rfl) (by kernel_rfl) (by kernel_rfl) SX.out _ _ _ rfl (gk) (14 * 7) rfl Tryz.underlying93 rfl (sz := 1) (by kernel_rfl) (by decide) (14 * 7 + 3) rfl ?_
    simp only [Act.put, sA9, sB9, sC9]
    refine Tree.t_load1 (i := 6) rfl rfl (by kernel_rfl) (by kernel_rfl) (by kernel_rfl) SX.out _ _ rfl (gk) (14 * 7 + 3) rfl (fv 70) (fun w' h => (R0.out w' h).ks) Tryz.underlying89 rfl ?_
    simp only [Act.put, sA9, sB9, sC9]
    refine Tree.t_load1 (i := 7) rfl rfl (by kernel_rfl) (by kernel_rfl) (by kernel_rfl) SX.out _ _ rfl (x) (0) rfl (.pointer (some ⟨cb, 0, none⟩)) (fun w' h => (R0.out w' h).cx) Tryz.underlying30 rfl ?_
    simp only [Act.put, sA9, sB9, sC9]
    refine Step.t_val (i := 8) rfl rfl (by kernel_rfl) (by kernel_rfl) (by kernel_rfl) SX.out (.pointer (some ⟨cb, 0, none⟩)) (fun w' _ => by rfl) ?_
    simp only [Act.put, sA9, sB9, sC9]
    refine Tree.t_field (i := 9) rfl rfl (by kernel_rfl) (by kernel_rfl) (by kernel_rfl) SX.out _ _ _ rfl (cb) (0) rfl Tryz.underlying80 rfl (sz := 1) (by kernel_rfl) (by decide) (0) rfl ?_
    simp only [Act.put, sA9, sB9, sC9]
    refine Tree.t_load1 (i := 10) rfl rfl (by kernel_rfl) (by kernel_rfl) (by kernel_rfl) SX.out _ _ rfl (cb) (0) rfl (.pointer (some ⟨xb, 0, none⟩)) (fun w' h => (R0.out w' h).c0) Tryz.underlying76 rfl ?_
    simp only [Act.put, sA9, sB9, sC9]
    refine Step.t_move (i := 11) rfl rfl (by kernel_rfl) (by kernel_rfl) (by kernel_rfl) SX.out _ rfl (.int .u64 s) rfl ?_
    simp only [Act.put, sA9, sB9, sC9]
    refine Step.t_move (i := 12) rfl rfl (by kernel_rfl) (by kernel_rfl) (by kernel_rfl) SX.out _ rfl (.slice (some ⟨g, 0, none⟩) n cap) rfl ?_
    simp only [Act.put, sA9, sB9, sC9]
    refine Step.t_val (i := 13) rfl rfl (by kernel_rfl) (by kernel_rfl) (by kernel_rfl) SX.out (.int .i64 n) (fun w' _ => by unfold execOp; go_simp) ?_
    simp only [Act.put, sA9, sB9, sC9]
    refine Step.t_two (i := 14) (j := 15) rfl rfl rfl rfl (by kernel_rfl) ?_ ?_
    · refine Step.w_callv _ _ _ rfl 70 [] rfl Tryz.func70 (by kernel_rfl) rfl [.pointer (some ⟨xb, 0, none⟩), .int .u64 s, .int .i64 n] rfl (SB.out _ _) ?_
      rintro e w1 ⟨rfl, hb⟩
      have G1 := SX.out.trans (hb.mono SX.out.size)
      refine ⟨_, rfl, G1, ?_⟩
      simp only [Act.put, sA9, sB9, sC9]
      have P1 := Lib.hid G1
      clear G1 hb SX
      refine Step.t_one (i := 15) rfl rfl (by kernel_rfl) ?_
      refine w_newarr 27 rfl .u8 16 z16 ?_
      intro w2 a2 g2 s2
      have G2 := P1.out.grown g2 P1.out.size (by simp)
      refine ⟨G2, ?_⟩
      simp only [Act.put, sA9, sB9, sC9]
      have hsz := P1.out.size
      generalize w1.heap.size = ab at *
      have P2 := Lib.hid G2
      have A2 := Lib.hid a2
      clear G2 a2 g2 s2 P1
      refine Step.t_one (i := 16) rfl rfl (by kernel_rfl) ?_
      refine wp_store_row 27 _ _ rfl ab _ rfl rfl _ _ A2.out (by rw [arr_size]; exact Field.info16) (by rw [arr_size, arr_size]) (arr_one _ _ _) ?_
      have hA := Rj.Arr_of_row (f := fun i => ((byt (revN (aN s n 0)) i : Nat) : Int)) A2.out
      have hG := Rj.gb_setRow w2 ab (arr .u8 16 fun i => ((byt (revN (aN s n 0)) i : Nat) : Int))
      generalize w2.setRow ab (arr .u8 16 fun i => ((byt (revN (aN s n 0)) i : Nat) : Int)) = w7 at *
      have hsz2 : w.heap.size ≤ ab := hsz
      have G7 := P2.out.grown hG P2.out.size (fun j hj => by cases hj; exact hsz2)
      refine ⟨G7, ?_⟩
      simp only [Act.put]
      refine Step.t_end (by kernel_rfl) ?_
      have P7 := Lib.hid G7
      have A7 := Lib.hid hA
      clear G7 hA hG
      go_wp2
      go_meet
      case rel => exact ⟨ab, rfl, hsz2, P7.out, A7.out⟩
    · refine w_newarr 27 rfl .u8 16 z16 ?_
      intro w2 a2 g2 s2
      have G2 := SX.out.grown g2 SX.out.size (by simp)
      refine ⟨G2, ?_⟩
      simp only [Act.put, sA9, sB9, sC9]
      have hsz := SX.out.size
      generalize w.drew.heap.size = ab at *
      have P2 := Lib.hid G2
      have A2 := Lib.hid a2
      clear G2 a2 g2 s2 SX
      refine Step.t_one (i := 14) rfl rfl (by kernel_rfl) ?_
      refine Step.w_callv _ _ _ rfl 70 [] rfl Tryz.func70 (by kernel_rfl) rfl [.pointer (some ⟨xb, 0, none⟩), .int .u64 s, .int .i64 n] rfl (SB.out _ _) ?_
      rintro e w1 ⟨rfl, hb⟩
      have G1 := P2.out.trans (hb.mono P2.out.size)
      refine ⟨_, rfl, G1, ?_⟩
      simp only [Act.put, sA9, sB9, sC9]
      have P3 := Lib.hid G1
      have A3 := Lib.hid (Rj.bel_arr (_B := 0) A2.out hb)
      clear G1 hb P2 A2
      refine Step.t_one (i := 16) rfl rfl (by kernel_rfl) ?_
      refine wp_store_row 27 _ _ rfl ab _ rfl rfl _ _ A3.out (by rw [arr_size]; exact Field.info16) (by rw [arr_size, arr_size]) (arr_one _ _ _) ?_
      have hA := Rj.Arr_of_row (f := fun i => ((byt (revN (aN s n 0)) i : Nat) : Int)) A3.out
      have hG := Rj.gb_setRow w1 ab (arr .u8 16 fun i => ((byt (revN (aN s n 0)) i : Nat) : Int))
      generalize w1.setRow ab (arr .u8 16 fun i => ((byt (revN (aN s n 0)) i : Nat) : Int)) = w7 at *
      have hsz2 : w.heap.size ≤ ab := hsz
      have G7 := P3.out.grown hG P3.out.size (fun j hj => by cases hj; exact hsz2)
      refine ⟨G7, ?_⟩
      simp only [Act.put]
      refine Step.t_end (by kernel_rfl) ?_
      have P7 := Lib.hid G7
      have A7 := Lib.hid hA
      clear G7 hA hG
      go_wp2
      go_meet
      case rel => exact ⟨ab, rfl, hsz2, P7.out, A7.out⟩
  obtain ⟨ab, rfl, hab, hbel, hat⟩ := hcut
  have S0 : Hid (Sec wc g n (lrwF E F s n F0 0)) := Lib.hid ((HS.out.below hbel).congr fun i _ => by unfold lrwF; rw [if_neg (by omega)])
  have U0 : Hid (RunS g ab (fun i => ((byt (revN (aN s n 0)) i : Nat) : Int)) w wc) := Lib.hid ⟨gb_bel (gb_refl w (some g)) hbel, hat⟩
  have hgl := HS.out.lt
  clear hbel hat R0 SB
  have hm64 : m ≤ 256 := by have := HM.out; omega
  go_upto_region 1 with fail
  refine wp_region_lit ?_
  refine Step.p_move rfl _ rfl (.slice (some ⟨g, 0, none⟩) n cap) rfl ?_
  simp only [Act.put, sA9, sB9, sC9]
  refine Step.p_len rfl _ _ 5 rfl (_) (n) (cap) rfl Tryz.underlying22 ?_
  simp only [Act.put, sA9, sB9, sC9]
  refine Step.p_val rfl (.int .i64 (m : Nat)) (by unfold execOp; have := HM.out; go_simp; first | exact IntWalk.i64_in _ (by omega) | omega | (rw [IntWalk.i64_in _ (by omega)]; omega)) ?_
  simp only [Act.put, sA9, sB9, sC9]
  refine Step.p_move rfl _ rfl (.int .i64 0) rfl ?_
  simp only [Act.put, sA9, sB9, sC9]
  refine wpList_nil ?_
  go_wp2
  go_loopw [26, 7] (fun i _ wr => ∃ k : Nat, k ≤ m ∧ i = .int .i64 k ∧ Sec wr g n (lrwF E F s n F0 k) ∧ RunS g ab (fun i => ((byt (revN (aN s n k)) i : Nat) : Int)) w wr) (fun i _ _ => m - (RowKit.intOf i).toNat)
  case atStart => exact ⟨0, by omega, rfl, S0.out, U0.out⟩
  case round =>
    obtain ⟨k, hk, rfl, hsec, hrs⟩ := hrel
    have SK := Lib.hid hsec
    have UK := Lib.hid hrs
    clear hsec hrs S0 U0
    by_cases hlt : k < m
    · have hk16 : 16 * k + 16 ≤ n := by have := HM.out; omega
      have ha : aN s n k < 2 ^ 128 := Nat.mod_lt _ (by decide)
      have GT := Lib.hid (fun w' h => get_any g n cap k (lrwF E F s n F0 k) (lrwF_lt hf k) hk16 hnc hcm w' h)
      rw [lrw_blk] at GT
      have TM : Hid (∀ w', Calls Tryz.prog 137 #[B16 F, B16 (revN (aN s n k))] w' fun e w2 => e = .returned (B16 (tw F (aN s n k))) ∧ Below w'.heap.size w' w2) := Lib.hid fun w' => times_any F (revN (aN s n k)) (revN_lt _) w'
      have BW : Hid (∀ w', w.grownBy w' (some g) → Calls Tryz.prog 167 #[v, B16 (blkN F0 k), B16 (tw F (aN s n k)), .pointer (some ⟨p, 0, none⟩)] w' fun e w2 => e = .returned (B16 (lrwB E F s n F0 k)) ∧ Below w'.heap.size w' w2) := Lib.hid fun w' h => between1_any f hfn hnn hbn v E (blkN F0 k) (tw F (aN s n k)) p (blkN_lt hf k) (revN_lt _) w' (HD.out w' h) (RE.out w' h).cp
      have PU := Lib.hid (fun w' h => put_any g n cap k (lrwB E F s n F0 k) (lrwF E F s n F0 k) hk16 hnc hcm w' h)
      have NX := Lib.hid (fun w' => next_any (aN s n k) ha w')
      rw [aN_succ] at NX
      clear ha hk16
      go_upto_region 4 with fail
      refine Step.begin_ (S := fun w' => RunS g ab (fun i => ((byt (revN (aN s n k)) i : Nat) : Int)) w w') 24 rfl (by kernel_rfl) ⟨gb_bel UK.out.gb (Below.refl _ _).drew, UK.out.at_⟩ ?_
      intro hS
      have SX := Lib.hid hS
      clear hS
      refine Step.t_move (i := 0) rfl rfl (by kernel_rfl) (by kernel_rfl) (by kernel_rfl) SX.out _ rfl (.slice (some ⟨g, 0, none⟩) n cap) rfl ?_
      simp only [Act.put, sA9, sB9, sC9]
      refine Step.t_move (i := 1) rfl rfl (by kernel_rfl) (by kernel_rfl) (by kernel_rfl) SX.out _ rfl (.int .i64 k) rfl ?_
      simp only [Act.put, sA9, sB9, sC9]
      refine Tree.t_load1 (i := 2) rfl rfl (by kernel_rfl) (by kernel_rfl) (by kernel_rfl) SX.out _ _ rfl (d) (0) rfl (.func (.func 167) #[] #[.pointer (some ⟨p, 0, none⟩)]) (fun w' h => (RE.out w' h.gb).cd) Tryz.underlying170 rfl ?_
      simp only [Act.put, sA9, sB9, sC9]
      refine Tree.t_load1 (i := 3) rfl rfl (by kernel_rfl) (by kernel_rfl) (by kernel_rfl) SX.out _ _ rfl (x) (0) rfl (.pointer (some ⟨cb, 0, none⟩)) (fun w' h => (RE.out w' h.gb).cx) Tryz.underlying30 rfl ?_
      simp only [Act.put, sA9, sB9, sC9]
      refine Step.t_val (i := 4) rfl rfl (by kernel_rfl) (by kernel_rfl) (by kernel_rfl) SX.out (.pointer (some ⟨cb, 0, none⟩)) (fun w' _ => by rfl) ?_
      simp only [Act.put, sA9, sB9, sC9]
      refine Tree.t_field (i := 5) rfl rfl (by kernel_rfl) (by kernel_rfl) (by kernel_rfl) SX.out _ _ _ rfl (cb) (0) rfl Tryz.underlying80 rfl (sz := 1) (by kernel_rfl) (by decide) (0) rfl ?_
      simp only [Act.put, sA9, sB9, sC9]
      refine Tree.t_load1 (i := 6) rfl rfl (by kernel_rfl) (by kernel_rfl) (by kernel_rfl) SX.out _ _ rfl (cb) (0) rfl (.pointer (some ⟨xb, 0, none⟩)) (fun w' h => (RE.out w' h.gb).c0) Tryz.underlying76 rfl ?_
      simp only [Act.put, sA9, sB9, sC9]
      refine Step.t_val (i := 7) rfl rfl (by kernel_rfl) (by kernel_rfl) (by kernel_rfl) SX.out (.pointer (some ⟨xb, 0, none⟩)) (fun w' _ => by rfl) ?_
      simp only [Act.put, sA9, sB9, sC9]
      refine Tree.t_field (i := 8) rfl rfl (by kernel_rfl) (by kernel_rfl) (by kernel_rfl) SX.out _ _ _ rfl (xb) (0) rfl Tryz.underlying96 rfl (sz := 1) (by kernel_rfl) (by decide) (2) rfl ?_
      simp only [Act.put, sA9, sB9, sC9]
      refine Tree.t_load1 (i := 9) rfl rfl (by kernel_rfl) (by kernel_rfl) (by kernel_rfl) SX.out _ _ rfl (xb) (2) rfl (v) (fun w' h => (RE.out w' h.gb).m) Tryz.underlying94 rfl ?_
      simp only [Act.put, sA9, sB9, sC9]
      refine Step.t_move (i := 10) rfl rfl (by kernel_rfl) (by kernel_rfl) (by kernel_rfl) SX.out _ rfl (.slice (some ⟨g, 0, none⟩) n cap) rfl ?_
      simp only [Act.put, sA9, sB9, sC9]
      refine Step.t_move (i := 11) rfl rfl (by kernel_rfl) (by kernel_rfl) (by kernel_rfl) SX.out _ rfl (.int .i64 k) rfl ?_
      simp only [Act.put, sA9, sB9, sC9]
      refine Tree.t_load1 (i := 13) rfl rfl (by kernel_rfl) (by kernel_rfl) (by kernel_rfl) SX.out _ _ rfl (x) (0) rfl (.pointer (some ⟨cb, 0, none⟩)) (fun w' h => (RE.out w' h.gb).cx) Tryz.underlying30 rfl ?_
      simp only [Act.put, sA9, sB9, sC9]
      refine Step.t_val (i := 14) rfl rfl (by kernel_rfl) (by kernel_rfl) (by kernel_rfl) SX.out (.pointer (some ⟨cb, 0, none⟩)) (fun w' _ => by rfl) ?_
      simp only [Act.put, sA9, sB9, sC9]
      refine Tree.t_field (i := 15) rfl rfl (by kernel_rfl) (by kernel_rfl) (by kernel_rfl) SX.out _ _ _ rfl (cb) (0) rfl Tryz.underlying80 rfl (sz := 1) (by kernel_rfl) (by decide) (0) rfl ?_
      simp only [Act.put, sA9, sB9, sC9]
      refine Tree.t_load1 (i := 16) rfl rfl (by kernel_rfl) (by kernel_rfl) (by kernel_rfl) SX.out _ _ rfl (cb) (0) rfl (.pointer (some ⟨xb, 0, none⟩)) (fun w' h => (RE.out w' h.gb).c0) Tryz.underlying76 rfl ?_
      simp only [Act.put, sA9, sB9, sC9]
      refine Step.t_val (i := 17) rfl rfl (by kernel_rfl) (by kernel_rfl) (by kernel_rfl) SX.out (.pointer (some ⟨xb, 0, none⟩)) (fun w' _ => by rfl) ?_
      simp only [Act.put, sA9, sB9, sC9]
      refine Tree.t_field (i := 18) rfl rfl (by kernel_rfl) (by kernel_rfl) (by kernel_rfl) SX.out _ _ _ rfl (xb) (0) rfl Tryz.underlying96 rfl (sz := 16) (by kernel_rfl) (by decide) (4) rfl ?_
      simp only [Act.put, sA9, sB9, sC9]
      refine Step.t_load_mid (i := 19) rfl rfl (by kernel_rfl) (by kernel_rfl) (by kernel_rfl) SX.out _ _ rfl xb 4 rfl (fun w' h => (RE.out w' h.gb).fl) Tryz.underlying27 rfl Field.info16 ?_
      simp only [Act.put, sA9, sB9, sC9]
      refine Step.t_load (i := 20) rfl rfl (by kernel_rfl) (by kernel_rfl) (by kernel_rfl) SX.out _ _ rfl ab rfl (fun w' h => h.at_) Tryz.underlying27 rfl Field.info16 ?_
      simp only [Act.put, sA9, sB9, sC9]
      have X0 := SX
      have Y0 : Hid (Sec wr.drew g n (lrwF E F s n F0 k)) := Lib.hid (SK.out.below (Below.refl _ _).drew)
      clear SK UK
      refine Step.t_one (i := 12) rfl rfl (by kernel_rfl) ?_
      refine Step.w_callx 107 _ _ rfl Tryz.func107 (by kernel_rfl) rfl _ rfl (GT.out _ Y0.out) ?_
      rintro e w1 ⟨rfl, hb⟩
      have U1 : RunS g ab (fun i => ((byt (revN (aN s n k)) i : Nat) : Int)) w w1 := ⟨gb_bel X0.out.gb hb, Rj.bel_arr (_B := 0) X0.out.at_ hb⟩
      refine ⟨_, rfl, U1, ?_⟩
      simp only [Act.put, sA9, sB9, sC9]
      have X1 := Lib.hid U1
      have Y1 := Lib.hid (Y0.out.below hb)
      clear U1 hb X0 Y0 SX
      refine Step.t_one (i := 21) rfl rfl (by kernel_rfl) ?_
      refine Step.w_callx 137 _ _ rfl Tryz.func137 (by kernel_rfl) rfl _ rfl (TM.out _) ?_
      rintro e w2 ⟨rfl, hb⟩
      have U2 : RunS g ab (fun i => ((byt (revN (aN s n k)) i : Nat) : Int)) w w2 := ⟨gb_bel X1.out.gb hb, Rj.bel_arr (_B := 0) X1.out.at_ hb⟩
      refine ⟨_, rfl, U2, ?_⟩
      simp only [Act.put, sA9, sB9, sC9]
      have X2 := Lib.hid U2
      have Y2 := Lib.hid (Y1.out.below hb)
      clear U2 hb X1 Y1
      refine Step.t_one (i := 22) rfl rfl (by kernel_rfl) ?_
      refine Step.w_callv _ _ _ rfl 167 [.pointer (some ⟨p, 0, none⟩)] rfl Tryz.func167 (by kernel_rfl) rfl [v, B16 (blkN F0 k), B16 (tw F (aN s n k))] rfl (BW.out _ X2.out.gb) ?_
      rintro e w3 ⟨rfl, hb⟩
      have U3 : RunS g ab (fun i => ((byt (revN (aN s n k)) i : Nat) : Int)) w w3 := ⟨gb_bel X2.out.gb hb, Rj.bel_arr (_B := 0) X2.out.at_ hb⟩
      refine ⟨_, rfl, U3, ?_⟩
      simp only [Act.put, sA9, sB9, sC9]
      have X3 := Lib.hid U3
      have Y3 := Lib.hid (Y2.out.below hb)
      clear U3 hb X2 Y2
      refine Step.t_one (i := 23) rfl rfl (by kernel_rfl) ?_
      refine Step.w_callx 105 _ _ rfl Tryz.func105 (by kernel_rfl) rfl _ rfl (PU.out _ Y3.out) ?_
      rintro e w4 ⟨rfl, hsec, hg4⟩
      have U4 : RunS g ab (fun i => ((byt (revN (aN s n k)) i : Nat) : Int)) w w4 := ⟨gb_trans X3.out.gb hg4, X3.out.at_.grown hg4 (by omega)⟩
      refine ⟨_, rfl, U4, ?_⟩
      simp only [Act.put, sA9, sB9, sC9]
      have X4 := Lib.hid U4
      have Y4 := Lib.hid (hsec.congr fun i _ => lrw_put E F s n F0 k i)
      clear U4 hsec hg4 X3 Y3
      refine Step.t_end (by kernel_rfl) ?_
      go_upto_region 5 with fail
      refine wp_region_lit ?_
      refine Step.p_load rfl 27 _ rfl ab rfl X4.out.at_ Tryz.underlying27 rfl Field.info16 ?_
      simp only [Act.put, sA9, sB9, sC9]
      refine Step.p_wp rfl (Step.w_callx 138 [.tmp 53] _ rfl Tryz.func138 (by kernel_rfl) rfl [B16 (revN (aN s n k))] rfl (NX.out _) ?_)
      rintro e w5 ⟨rfl, hb⟩
      refine ⟨_, rfl, ?_⟩
      simp only [Act.put, sA9, sB9, sC9]
      have X5 : Hid (RunS g ab (fun i => ((byt (revN (aN s n k)) i : Nat) : Int)) w w5) := Lib.hid ⟨gb_bel X4.out.gb hb, Rj.bel_arr (_B := 0) X4.out.at_ hb⟩
      have Y5 := Lib.hid (Y4.out.below hb)
      clear hb X4 Y4
      refine Step.p_store 27 _ _ rfl ab rfl rfl X5.out.at_ Field.info16 rfl ?_
      intro w6 a6 g6 s6
      simp only [Act.put]
      refine wpList_nil ?_
      have G6 : w.grownBy w6 (some g) := ⟨g6.os.trans X5.out.gb.os, g6.tape.trans X5.out.gb.tape, g6.output.trans X5.out.gb.output, Nat.le_trans X5.out.gb.size g6.size, fun j hj hne => (g6.block j (Nat.lt_of_lt_of_le hj X5.out.gb.size) (fun e => by cases e; omega)).trans (X5.out.gb.block j hj hne)⟩
      have Y6 : Sec w6 g n (lrwF E F s n F0 (k + 1)) := by
        obtain ⟨cur, c1, c2⟩ := Y5.out
        exact ⟨cur, (g6.block g (Array.getElem?_eq_some_iff.1 c1).1 (fun e => by cases e; omega)).trans c1, c2⟩
      have Z6 : Hid (Sec w6 g n (lrwF E F s n F0 (k + 1)) ∧ RunS g ab (fun i => ((byt (revN (aN s n (k + 1))) i : Nat) : Int)) w w6) := Lib.hid ⟨Y6, G6, a6⟩
      clear a6 g6 s6 G6 Y6
      go_wp2
      go_roundw
      case rel => exact ⟨k + 1, by omega, by go_num, Z6.out⟩
      case measure => simp [RowKit.intOf]; omega
    · obtain rfl : k = m := by omega
      go_wp2
      go_end0
      exact ⟨rfl, SK.out, UK.out.gb⟩
end Go.Proofs.YtmifebcaifbmoaaGreatDoor.Tw
end

/- Seal -/
section
namespace Go.Proofs.YtmifebcaifbmoaaGreatDoor.Tw
open Go.RowKit Go.Lib Go.Proofs.YtmifebcaifbmoaaGreatDoor.Blk Go.Proofs.YtmifebcaifbmoaaGreatDoor.Poly Go.Proofs.YtmifebcaifbmoaaGreatDoor.Field Go.Proofs.YtmifebcaifbmoaaGreatDoor.Tab Go.Proofs.YtmifebcaifbmoaaGreatDoor.Byts

/-- the field of a key of LRW -/
def fieldN (key : Nat → Nat) (nk : Nat) : Nat := lowN (fun i => key (4 * nk + i) % 256) 16
/-- what bytes are sealed as by LRW -/
def sealF (key : Nat → Nat) (nk s n : Nat) (f : Nat → Nat) : Nat → Nat := lrwF (keyE key nk) (fieldN key nk) s n f (n / 16)
/-- what stands behind a cipher of LRW -/
theorem lrw_open {key : Nat → Nat} {nk cb : Nat} {w : World} (hk : ∀ i, i < 16 → key (4 * nk + i) < 256) (h : CiphLrw key nk cb w) : ∃ x d p xb gk v, w.cell? ⟨cb, 0, none⟩ = some (.pointer (some ⟨xb, 0, none⟩)) ∧ w.cell? ⟨cb, 1, none⟩ = some (.pointer (some ⟨gk, 14 * 7, none⟩)) ∧ w.cell? ⟨cb, 2, none⟩ = some (.func (.func 136) #[] #[.pointer (some ⟨x, 0, none⟩), .pointer (some ⟨d, 0, none⟩)]) ∧
    w.cell? ⟨xb, 36, none⟩ = some (.bool false) ∧ w.cell? ⟨gk, 14 * 7 + 6, none⟩ = some (.bool false) ∧ RunE 106 x d p xb cb gk (fieldN key nk) v w ∧ Sched key nk v w := by
  obtain ⟨xb, gk, d0, s, u, cs, v, h1, h2, h3, h4, h5, ⟨x, d, dv, rfl, l1, l2, p, rfl, l3⟩, _⟩ := h
  obtain ⟨nm, hnm⟩ := h3.nm
  have c0 : w.cell? ⟨cb, 0, none⟩ = some (.pointer (some ⟨xb, 0, none⟩)) := by rw [cell_of_row w _ _ _ _ _ h1]; rfl
  have c1 : w.cell? ⟨cb, 1, none⟩ = some (.pointer (some ⟨gk, 14 * 7, none⟩)) := by rw [cell_of_row w _ _ _ _ _ h1]; rfl
  refine ⟨x, d, p, xb, gk, v, c0, c1, by rw [cell_of_row w _ _ _ _ _ h1]; rfl, by rw [cell_of_row w _ _ _ _ _ h2]; exact h3.wip, h5.c 14 (by decide) 6 _ rfl, ⟨l1, l2, l3, c0, c1, ⟨_, h5.c 0 (by decide) 0 _ rfl⟩, h5.c 14 (by decide) 3 _ rfl, ⟨nm, by rw [cell_of_row w _ _ _ _ _ h2]; exact hnm⟩, by rw [cell_of_row w _ _ _ _ _ h2]; exact h3.main, fun i u hi => ?_⟩, h4⟩
  obtain ⟨hi', rfl⟩ := blk_get _ i u hi
  have e : byt (fieldN key nk) i = key (4 * nk + i) := by
    unfold fieldN
    rw [byt_lowN (fun _ => Nat.mod_lt _ (by decide)) hi']
    exact Nat.mod_eq_of_lt (hk i hi')
  rw [cell_of_row w _ _ _ _ _ h2, e]
  exact h3.fld i hi'
theorem fieldN_lt (key : Nat → Nat) (nk : Nat) : fieldN key nk < 2 ^ 128 := lowN_lt _ (fun _ => Nat.mod_lt _ (by decide)) 16

set_option maxRecDepth 100000 in
set_option maxHeartbeats 4000000 in
theorem sealLrw_any (key : Nat → Nat) (nk cb : Nat) (hk : ∀ i, i < 16 → key (4 * nk + i) < 256) (s : Nat) (hs : s < 2 ^ 64) (b off n cap : Nat) (hn16 : n % 16 = 0) (hn0 : 16 ≤ n) (hn : n ≤ 4096) (f : Nat → Nat) (hf : ∀ i, f i < 256) (w : World) (hC : CiphLrw key nk cb w) (hB : BL w (some ⟨b, off, none⟩) n f) :
    Calls Tryz.prog 14 #[.pointer (some ⟨cb, 0, none⟩), .int .u64 s, .slice (some ⟨b, off, none⟩) n cap] w fun e w' => ∃ g, e = .returned (.tuple #[.slice (some ⟨g, 0, none⟩) n n, .int .i64 0]) ∧ Sec w' g n (sealF key nk s n f) ∧ w.heap.size ≤ g ∧ Below w.heap.size w w' := by
  obtain ⟨x, d, p, xb, gk, v, c0, c1, c2, cw, cl, hR, hSc⟩ := lrw_open hk hC
  have MY := Lib.hid (may_any cb xb gk (14 * 7) n false w c0 cw c1 cl hn0 hn (.inr hn16))
  have CL := Lib.hid (clone_any b off n cap f w (by omega) (by omega) hB)
  have C2 := Lib.hid c2
  have HR := Lib.hid hR
  have HSc := Lib.hid hSc
  have FL := fieldN_lt key nk
  clear c0 c1 c2 cw cl hR hSc hC hB hk
  go_enter Tryz.func14, Tryz.ntmps14
  go_upto_region 4 with (go_at_call 40; refine MY.out.mono ?_; rintro e w' ⟨rfl, rfl⟩)
  go_upto_region 5 with (go_at_call 41; refine CL.out.mono ?_; rintro e w2 ⟨g, c, rfl, hsec, hg, hgc, hcm, hb⟩)
  have S2 := Lib.hid hsec
  have B2 := Lib.hid hb
  clear hsec hb MY CL
  have R2 : RunE 106 x d p xb cb gk (fieldN key nk) v w2 := by
    have h := HR.out
    obtain ⟨s1, e1⟩ := h.k0
    obtain ⟨s2, e2⟩ := h.n0
    have B := B2.out
    exact ⟨cell_bel B h.cx, cell_bel B h.cd, cell_bel B h.cp, cell_bel B h.c0, cell_bel B h.c1, ⟨s1, cell_bel B e1⟩, cell_bel B h.ks, ⟨s2, cell_bel B e2⟩, cell_bel B h.m, fun i u hi => cell_bel B (h.fl i u hi)⟩
  have D2 : ∀ w', w2.grownBy w' (some g) → DoAt 106 v (keyE key nk) w' := fun w' h => by
    obtain ⟨cur, e1, e2, e3⟩ := S2.out
    exact doAt_code ((HSc.out.below B2.out).grown e1 (by decide) (by decide) (e3 0 (by omega)) (fun x e => by cases e) h)
  have RN := Lib.hid (lrwRun_any 106 Tryz.func106 (by kernel_rfl) rfl (keyE key nk) x d p xb cb gk (fieldN key nk) FL v s hs g n c (n / 16) (by omega) (by omega) hn hgc hcm f hf w2 R2 S2.out D2)
  have c2 := cell_bel B2.out C2.out
  clear R2 D2 S2
  refine wp_region_lit ?_
  refine Step.p_move rfl _ rfl (.pointer (some ⟨cb, 0, none⟩)) rfl ?_
  simp only [Act.put, sA9, sB9, sC9]
  refine Step.p_val rfl (.pointer (some ⟨cb, 0, none⟩)) (by unfold execOp; go_simp) ?_
  simp only [Act.put, sA9, sB9, sC9]
  refine Tree.p_field rfl _ _ _ rfl (cb) (0) rfl Tryz.underlying80 rfl (sz := 1) (by kernel_rfl) (by decide) (2) rfl ?_
  simp only [Act.put, sA9, sB9, sC9]
  refine Tree.p_load1 rfl _ _ rfl (cb) (2) rfl (.func (.func 136) #[] #[.pointer (some ⟨x, 0, none⟩), .pointer (some ⟨d, 0, none⟩)]) (c2) Tryz.underlying78 rfl ?_
  simp only [Act.put, sA9, sB9, sC9]
  refine Step.p_move rfl _ rfl (.int .u64 s) rfl ?_
  simp only [Act.put, sA9, sB9, sC9]
  refine Step.p_move rfl _ rfl (.slice (some ⟨g, 0, none⟩) n c) rfl ?_
  simp only [Act.put, sA9, sB9, sC9]
  refine Step.p_wp rfl (Step.w_callv _ _ _ rfl 136 [.pointer (some ⟨x, 0, none⟩), .pointer (some ⟨d, 0, none⟩)] rfl Tryz.func136 (by kernel_rfl) rfl [.int .u64 s, .slice (some ⟨g, 0, none⟩) n c] rfl RN.out ?_)
  rintro e w3 ⟨rfl, hsec, hg3⟩
  refine ⟨_, rfl, ?_⟩
  simp only [Act.put, sA9, sB9, sC9]
  refine wpList_nil ?_
  have S3 := Lib.hid hsec
  have B3 := Lib.hid (B2.out.grown hg3 B2.out.size (fun j hj => by cases hj; exact hg))
  clear hsec hg3 c2 RN
  go_upto_region 6 with fail
  refine wp_region_lit ?_
  refine Step.p_move rfl _ rfl (.slice (some ⟨g, 0, none⟩) n c) rfl ?_
  simp only [Act.put, sA9, sB9, sC9]
  refine Step.p_move rfl _ rfl (.slice (some ⟨g, 0, none⟩) n c) rfl ?_
  simp only [Act.put, sA9, sB9, sC9]
  refine Step.p_len rfl _ _ 5 rfl (_) (n) (c) rfl Tryz.underlying22 ?_
  simp only [Act.put, sA9, sB9, sC9]
  refine Step.p_move rfl _ rfl (.slice (some ⟨g, 0, none⟩) n c) rfl ?_
  simp only [Act.put, sA9, sB9, sC9]
  refine Step.p_len rfl _ _ 5 rfl (_) (n) (c) rfl Tryz.underlying22 ?_
  simp only [Act.put, sA9, sB9, sC9]
  refine Step.p_val rfl (.slice (some ⟨g, 0, none⟩) n n) (by unfold execOp; go_simp; try (rw [if_pos ⟨by omega, by omega⟩])) ?_
  simp only [Act.put, sA9, sB9, sC9]
  refine Step.p_assign rfl _ rfl (.slice (some ⟨g, 0, none⟩) n n) rfl ?_
  simp only [Act.put, sA9, sB9, sC9]
  refine Step.p_assign rfl _ rfl (.int .i64 0) rfl ?_
  simp only [Act.put, sA9, sB9, sC9]
  refine wpList_nil ?_
  go_wp2
  go_ret2
  exact ⟨g, rfl, S3.out, hg, B3.out⟩
end Go.Proofs.YtmifebcaifbmoaaGreatDoor.Tw
end
