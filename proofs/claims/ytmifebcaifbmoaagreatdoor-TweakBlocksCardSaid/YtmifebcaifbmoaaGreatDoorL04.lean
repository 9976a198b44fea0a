/- Parts of the proof of TweakBlocks. Still: A drawn region of reads before one store: the reads one by one, in one world; elements of arrays behind a pointer. General. Rj6: rijndael: the substitution of a word's bytes. Rj7: rijndael: a round on words is a round on bytes. -/
import Derived.Test.YtmifebcaifbmoaaGreatDoorL00
import Derived.Test.YtmifebcaifbmoaaGreatDoorL03
import Derived.StillTail
/- Still -/
section
namespace Go.Proofs.YtmifebcaifbmoaaGreatDoor.Still
open Go.RowKit Go.Lib Go.Proofs.YtmifebcaifbmoaaGreatDoor.Blk
section
variable {P : Program} {w : World}
theorem run_idxA {t e : TypeId} {n size : Nat} (hu : P.underlying t = some (.array n e)) (hi : (P.info? e).map (·.size) = some size) (b off : Nat) (k : IntKind) (j : Nat) (hj : j < n) (w : World) :
    (Instr.indexAt t (.pointer (some ⟨b, off, none⟩)) (.int k j)).run P w = .ok (.pointer (some ⟨b, off + j * size, none⟩)) w := by
  cases hie : P.info? e with
  | none => simp [hie] at hi
  | some ie =>
    simp only [hie, Option.map_some, Option.some.injEq] at hi
    subst hi
    have h1 : (0 : Int) ≤ j ∧ (j : Int) < n := by omega
    simp [Instr.indexAt, run_underlying hu, Instr.sureAddr, asIntOf, h1, hj, sizeOf, typeInfo, hie, Addr.add_mid]
theorem run_idxS {t e : TypeId} {size : Nat} (hu : P.underlying t = some (.slice e)) (hi : (P.info? e).map (·.size) = some size) (b off len cap : Nat) (k : IntKind) (j : Nat) (hj : j < len) (w : World) :
    (Instr.indexAt t (.slice (some ⟨b, off, none⟩) len cap) (.int k j)).run P w = .ok (.pointer (some ⟨b, off + j * size, none⟩)) w := by
  cases hie : P.info? e with
  | none => simp [hie] at hi
  | some ie =>
    simp only [hie, Option.map_some, Option.some.injEq] at hi
    subst hi
    have h1 : (0 : Int) ≤ j ∧ (j : Int) < len := by omega
    simp [Instr.indexAt, asIntOf, run_underlying hu, sizeOf, typeInfo, hie, h1, hj, Addr.add_mid]
end
section
variable {P : Program} {ops : Array Oper} {a : Act} {w : World} {o : Oper} {rest : List Oper} {Q : Act → Prop}
theorem s_val (hg : Region.wanted o (yielded ops a.tmps) = true) (v : Value) (hv : (execOp a.eval o).run P w = .ok (.value v) w) (h : wpStill P ops w Q rest (a.put o.dst v)) : wpStill P ops w Q (o :: rest) a := by
  unfold wpStill
  rw [if_pos hg]
  unfold Oper.still
  rw [hv, Oper.stillUpon_value]
  exact h
theorem s_move (hg : Region.wanted o (yielded ops a.tmps) = true) (x : Operand) (ho : o.op = .move x) (v : Value) (hv : a.eval x = v) (h : wpStill P ops w Q rest (a.put o.dst v)) : wpStill P ops w Q (o :: rest) a :=
  s_val hg v (by unfold execOp; rw [ho]; simp [hv]) h
theorem s_load1 (hg : Region.wanted o (yielded ops a.tmps) = true) (ty : TypeId) (x : Operand) (ho : o.op = .load ty x) (b off : Nat) (hx : a.eval x = .pointer (some ⟨b, off, none⟩)) {d : TypeDesc} (v : Value) (hA : w.cell? ⟨b, off, none⟩ = some v) (hu : P.underlying ty = some d) (hd : Step.oneD d = true)
    (h : wpStill P ops w Q rest (a.put o.dst v)) : wpStill P ops w Q (o :: rest) a :=
  s_val hg v (by
    unfold execOp
    simp only [ho, hx, Instr.loadAt, Instr.sureAddr, Sem.run_bind, Sem.run_pure, Result.andThen_ok, Step.run_load1 ty b off hu hd hA]) h
theorem s_idxA (hg : Region.wanted o (yielded ops a.tmps) = true) (t e : TypeId) (x ix : Operand) (ho : o.op = .indexAddr t x ix) (b off : Nat) (hx : a.eval x = .pointer (some ⟨b, off, none⟩)) (k : IntKind) (j : Nat) (hj : a.eval ix = .int k j) {n size : Nat} (hlt : j < n)
    (hu : P.underlying t = some (.array n e)) (hi : (P.info? e).map (·.size) = some size) (off2 : Nat) (ho2 : off + j * size = off2) (h : wpStill P ops w Q rest (a.put o.dst (.pointer (some ⟨b, off2, none⟩)))) : wpStill P ops w Q (o :: rest) a :=
  s_val hg _ (by
    subst ho2
    unfold execOp
    simp only [ho, hx, hj, Sem.run_bind, run_idxA hu hi b off k j hlt w, Result.andThen_ok, Sem.run_pure]) h
theorem s_idxS (hg : Region.wanted o (yielded ops a.tmps) = true) (t e : TypeId) (x ix : Operand) (ho : o.op = .indexAddr t x ix) (b off len cap : Nat) (hx : a.eval x = .slice (some ⟨b, off, none⟩) len cap) (k : IntKind) (j : Nat) (hj : a.eval ix = .int k j) {size : Nat} (hlt : j < len)
    (hu : P.underlying t = some (.slice e)) (hi : (P.info? e).map (·.size) = some size) (off2 : Nat) (ho2 : off + j * size = off2) (h : wpStill P ops w Q rest (a.put o.dst (.pointer (some ⟨b, off2, none⟩)))) : wpStill P ops w Q (o :: rest) a :=
  s_val hg _ (by
    subst ho2
    unfold execOp
    simp only [ho, hx, hj, Sem.run_bind, run_idxS hu hi b off len cap k j hlt w, Result.andThen_ok, Sem.run_pure]) h
variable {C : World → Prop} {Q2 : Act → Prop}
theorem q_idxA (hg : Region.wanted o (yielded ops a.tmps) = true) (t e : TypeId) (x ix : Operand) (ho : o.op = .indexAddr t x ix) (b off : Nat) (hx : a.eval x = .pointer (some ⟨b, off, none⟩)) (k : IntKind) (j : Nat) (hj : a.eval ix = .int k j) {n size : Nat} (hlt : j < n)
    (hu : P.underlying t = some (.array n e)) (hi : (P.info? e).map (·.size) = some size) (off2 : Nat) (ho2 : off + j * size = off2) (h : wpQuiet P ops C Q2 rest (a.put o.dst (.pointer (some ⟨b, off2, none⟩)))) : wpQuiet P ops C Q2 (o :: rest) a :=
  Step.q_pure hg _ (fun w => by
    subst ho2
    unfold execOp
    simp only [ho, hx, hj, Sem.run_bind, run_idxA hu hi b off k j hlt w, Result.andThen_ok, Sem.run_pure]) h
variable {QQ : Exit → Act → World → Prop}
theorem p_idxA (hg : Region.wanted o (yielded ops a.tmps) = true) (t e : TypeId) (x ix : Operand) (ho : o.op = .indexAddr t x ix) (b off : Nat) (hx : a.eval x = .pointer (some ⟨b, off, none⟩)) (k : IntKind) (j : Nat) (hj : a.eval ix = .int k j) {n size : Nat} (hlt : j < n)
    (hu : P.underlying t = some (.array n e)) (hi : (P.info? e).map (·.size) = some size) (off2 : Nat) (ho2 : off + j * size = off2) (h : wpList P ops QQ rest (a.put o.dst (.pointer (some ⟨b, off2, none⟩))) w) : wpList P ops QQ (o :: rest) a w :=
  Step.p_val hg _ (by
    subst ho2
    unfold execOp
    simp only [ho, hx, hj, Sem.run_bind, run_idxA hu hi b off k j hlt w, Result.andThen_ok, Sem.run_pure]) h
/-- the end of an array behind a pointer, as a slice -/
theorem p_sliceA (hg : Region.wanted o (yielded ops a.tmps) = true) (t e : TypeId) (x y : Operand) (ho : o.op = .slice t x (some y) none none) (b : Nat) (hx : a.eval x = .pointer (some ⟨b, 0, none⟩)) (lo n : Nat) (z : Int) (hy : a.eval y = .int .i64 z) (hz : z = lo) (hlt : lo < n)
    (hu : P.underlying t = some (.array n e)) (hi : (P.info? e).map (·.size) = some 1) (h : wpList P ops QQ rest (a.put o.dst (.slice (some ⟨b, lo, none⟩) (n - lo) (n - lo))) w) : wpList P ops QQ (o :: rest) a w :=
  Step.p_val hg _ (by
    subst hz
    unfold execOp
    cases hie : P.info? e with
    | none => simp [hie] at hi
    | some ie =>
      simp only [hie, Option.map_some, Option.some.injEq] at hi
      have hs : (sizeOf e).run P w = .ok 1 w := by simp [sizeOf, typeInfo, hie, hi]
      have h1 : (0 : Int) ≤ lo ∧ (lo : Int) ≤ n := by omega
      have h2 : ¬ n < lo := by omega
      have h3 : ¬ n = lo := by omega
      have hr : (Instr.sliceAt t (.pointer (some ⟨b, 0, none⟩)) (some (.int .i64 lo)) none none).run P w = .ok (.slice (some ⟨b, lo, none⟩) (n - lo) (n - lo)) w := by
        simp [Instr.sliceAt, go_sem, run_underlying hu, hs, Instr.sliceBounds, Instr.sliceBound, Instr.sureAddr, asIntOf, h1, h2, h3, Addr.add_mid]
      simp only [ho, hx, hy, Option.map_some, Option.map_none, Sem.run_bind, hr, Result.andThen_ok, Sem.run_pure]) h
/-- a number is stored into a block of numbers -/
theorem p_storeA (hgd : o.guard = none) (t : TypeId) (x y : Operand) (ho : o.op = .store t x y) (b off : Nat) (hx : a.eval x = .pointer (some ⟨b, off, none⟩)) (k : IntKind) (v : Int) (hy : a.eval y = .int k v) {n : Nat} {T : TypeId} {f : Nat → Int} (hA : Arr w b k n T f) (hol : off < n) (hi : (P.info? t).map (·.size) = some 1)
    (h : wpList P ops QQ rest (a.put o.dst undef) (w.setCell ⟨b, off, none⟩ (.int k v))) : wpList P ops QQ (o :: rest) a w :=
  wpList_plain hgd fun K hK => Tree.w_skip (by
    unfold execOp
    cases hie : P.info? t with
    | none => simp [hie] at hi
    | some ie =>
      simp only [hie, Option.map_some, Option.some.injEq] at hi
      have hs : (sizeOf t).run P w = .ok 1 w := by simp [sizeOf, typeInfo, hie, hi]
      have hc := hA.cell hol
      have hf := hA.free off
      have hr : (Instr.storeAt t (.pointer (some ⟨b, off, none⟩)) (.int k v)).run P w = .ok () (w.setCell ⟨b, off, none⟩ (.int k v)) := by simp [Instr.storeAt, go_sem, storeVar, hs, storeCells, hc, hf]
      simp only [ho, hx, hy, Sem.run_bind, hr, Result.andThen_ok, Sem.run_pure]) (hK _ _ h)
end
end Go.Proofs.YtmifebcaifbmoaaGreatDoor.Still
end

/- Rj6 -/
section
namespace Go.Proofs.YtmifebcaifbmoaaGreatDoor.Rj
open Go.RowKit Go.Lib Go.Proofs.YtmifebcaifbmoaaGreatDoor.Blk Go.Proofs.YtmifebcaifbmoaaGreatDoor.Aes Go.Proofs.YtmifebcaifbmoaaGreatDoor.Seg

theorem tab_s {C : Array Value} {w : World} {b : Nat} (h1 : w.heap[b]? = some (.cells C 191 (0, 0))) (h2 : TabC C) {i : Nat} (hi : i < 256) : w.cell? ⟨b, i, none⟩ = some (.int .u8 (S i : Nat)) := by
  rw [cell_of_row w b i _ _ _ h1]
  have := h2.s i hi
  rwa [Nat.zero_add] at this

set_option maxRecDepth 100000 in
set_option maxHeartbeats 4000000 in
theorem word_any (f : Nat → Nat) (hf : Byt f 4) (b : Nat) (w : World) (h : TabAt w b) : Calls Tryz.prog 94 #[.pointer (some ⟨b, 0, none⟩), .int .u32 (wd f : Nat)] w fun e w' => e = .returned (.int .u32 (wd (fun j => S (f j)) : Nat)) ∧ Below w.heap.size w w' := by
  obtain ⟨C, h1, h2⟩ := h
  have H1 := Lib.hid h1
  have H2 := Lib.hid h2
  have hb : b < w.heap.size := (Array.getElem?_eq_some_iff.1 h1).1
  clear h1 h2
  have f0 := hf 0 (by decide)
  have g0 := S_lt _ f0
  have c0 := tab_s H1.out H2.out f0
  have f1 := hf 1 (by decide)
  have g1 := S_lt _ f1
  have c1 := tab_s H1.out H2.out f1
  have f2 := hf 2 (by decide)
  have g2 := S_lt _ f2
  have c2 := tab_s H1.out H2.out f2
  have f3 := hf 3 (by decide)
  have g3 := S_lt _ f3
  have c3 := tab_s H1.out H2.out f3
  have e0 := wd_0 hf
  have e1 := wd_1 hf
  have e2 := wd_2 hf
  have e3 := wd_3 hf
  have hw := wd_lt hf
  have er : wd (fun j => S (f j)) = S (f 0) * 16777216 + S (f 1) * 65536 + S (f 2) * 256 + S (f 3) := by
    show ((S (f 0) * 256 + S (f 1)) * 256 + S (f 2)) * 256 + S (f 3) = _
    omega
  obtain ⟨R, hR⟩ : ∃ R, wd (fun j => S (f j)) = R := ⟨_, rfl⟩
  rw [hR]
  have o1 := or_a (S (f 0)) (S (f 1)) g0 g1
  have o2 := or_b (S (f 0)) (S (f 1)) (S (f 2)) g0 g1 g2
  have o3 := or_c (S (f 0)) (S (f 1)) (S (f 2)) (S (f 3)) g0 g1 g2 g3
  rw [← er, hR] at o3
  clear er hR H1 H2 hf
  generalize f 0 = x0 at *
  generalize f 1 = x1 at *
  generalize f 2 = x2 at *
  generalize f 3 = x3 at *
  generalize wd f = W at *
  generalize S x0 = s0 at *
  generalize S x1 = s1 at *
  generalize S x2 = s2 at *
  generalize S x3 = s3 at *
  have E0 : Hid (((W : Nat) : Int) / 16777216 = (x0 : Nat)) := Lib.hid (by rw [← e0]; simp)
  have A1 : Hid (bits .and .u32 ((W / 65536 : Nat) : Int) 255 = (x1 : Nat)) := Lib.hid (by rw [and255 _ (by omega), e1])
  have A2 : Hid (bits .and .u32 ((W / 256 : Nat) : Int) 255 = (x2 : Nat)) := Lib.hid (by rw [and255 _ (by omega), e2])
  have A3 : Hid (bits .and .u32 ((W : Nat) : Int) 255 = (x3 : Nat)) := Lib.hid (by rw [and255 _ (by omega), e3])
  have O1 := Lib.hid o1
  have O2 := Lib.hid o2
  have O3 := Lib.hid o3
  clear e0 e1 e2 e3 o1 o2 o3
  go_enter Tryz.func94, Tryz.ntmps94
  go_upto_region 1 with fail
  refine Step.wp_region_class (C := fun w' => Below w.heap.size w w') (by kernel_rfl) (by kernel_rfl) (Below.refl _ _).drew ?_
  refine Step.q_move rfl _ rfl (.pointer (some ⟨b, 0, none⟩)) rfl ?_
  simp only [Act.put, sA9, sB9, sC9]
  refine Step.q_move rfl _ rfl (.int .u32 (W : Nat)) rfl ?_
  simp only [Act.put, sA9, sB9, sC9]
  refine Step.q_pure rfl (.int .u32 (x0 : Nat)) (fun w' => by unfold execOp; go_simp; exact E0.out) ?_
  simp only [Act.put, sA9, sB9, sC9]
  refine Step.q_pure rfl (.pointer (some ⟨b, 0, none⟩)) (fun w' => by unfold execOp; go_simp) ?_
  simp only [Act.put, sA9, sB9, sC9]
  refine Step.q_field rfl _ _ _ rfl (b) (0) rfl Tryz.underlying191 rfl (sz := 256) (by kernel_rfl) (by decide) (0) rfl ?_
  simp only [Act.put, sA9, sB9, sC9]
  refine Still.q_idxA rfl _ 5 _ _ rfl (b) (0) rfl .u32 (x0) rfl f0 Tryz.underlying175 (size := 1) (by kernel_rfl) (x0) (by omega) ?_
  simp only [Act.put, sA9, sB9, sC9]
  refine Step.q_load1 rfl _ _ rfl (b) (x0) rfl (.int .u8 (s0 : Nat)) (fun w' hw' => (hw'.cell (p := ⟨b, x0, none⟩) (Frame.block_lt (c0))).trans (c0)) Tryz.underlying5 rfl ?_
  simp only [Act.put, sA9, sB9, sC9]
  refine Step.q_pure rfl (.int .u32 (s0 : Nat)) (fun w' => by unfold execOp; go_simp; exact wrap32u _ (Int.natCast_nonneg _) (by omega)) ?_
  simp only [Act.put, sA9, sB9, sC9]
  refine Step.q_pure rfl (.int .u32 (s0 * 16777216 : Nat)) (fun w' => by unfold execOp; go_simp; exact (wrap32u _ (by omega) (by omega)).trans (by omega)) ?_
  simp only [Act.put, sA9, sB9, sC9]
  refine Step.q_move rfl _ rfl (.pointer (some ⟨b, 0, none⟩)) rfl ?_
  simp only [Act.put, sA9, sB9, sC9]
  refine Step.q_move rfl _ rfl (.int .u32 (W : Nat)) rfl ?_
  simp only [Act.put, sA9, sB9, sC9]
  refine Step.q_pure rfl (.int .u32 (W / 65536 : Nat)) (fun w' => by unfold execOp; go_simp; try omega) ?_
  simp only [Act.put, sA9, sB9, sC9]
  refine Step.q_pure rfl (.int .u32 (x1 : Nat)) (fun w' => by unfold execOp; go_simp; exact A1.out) ?_
  simp only [Act.put, sA9, sB9, sC9]
  refine Step.q_pure rfl (.pointer (some ⟨b, 0, none⟩)) (fun w' => by unfold execOp; go_simp) ?_
  simp only [Act.put, sA9, sB9, sC9]
  refine Step.q_field rfl _ _ _ rfl (b) (0) rfl Tryz.underlying191 rfl (sz := 256) (by kernel_rfl) (by decide) (0) rfl ?_
  simp only [Act.put, sA9, sB9, sC9]
  refine Still.q_idxA rfl _ 5 _ _ rfl (b) (0) rfl .u32 (x1) rfl f1 Tryz.underlying175 (size := 1) (by kernel_rfl) (x1) (by omega) ?_
  simp only [Act.put, sA9, sB9, sC9]
  refine Step.q_load1 rfl _ _ rfl (b) (x1) rfl (.int .u8 (s1 : Nat)) (fun w' hw' => (hw'.cell (p := ⟨b, x1, none⟩) (Frame.block_lt (c1))).trans (c1)) Tryz.underlying5 rfl ?_
  simp only [Act.put, sA9, sB9, sC9]
  refine Step.q_pure rfl (.int .u32 (s1 : Nat)) (fun w' => by unfold execOp; go_simp; exact wrap32u _ (Int.natCast_nonneg _) (by omega)) ?_
  simp only [Act.put, sA9, sB9, sC9]
  refine Step.q_pure rfl (.int .u32 (s1 * 65536 : Nat)) (fun w' => by unfold execOp; go_simp; exact (wrap32u _ (by omega) (by omega)).trans (by omega)) ?_
  simp only [Act.put, sA9, sB9, sC9]
  refine Step.q_pure rfl (.int .u32 (s0 * 16777216 + s1 * 65536 : Nat)) (fun w' => by unfold execOp; go_simp; exact O1.out) ?_
  simp only [Act.put, sA9, sB9, sC9]
  refine Step.q_move rfl _ rfl (.pointer (some ⟨b, 0, none⟩)) rfl ?_
  simp only [Act.put, sA9, sB9, sC9]
  refine Step.q_move rfl _ rfl (.int .u32 (W : Nat)) rfl ?_
  simp only [Act.put, sA9, sB9, sC9]
  refine Step.q_pure rfl (.int .u32 (W / 256 : Nat)) (fun w' => by unfold execOp; go_simp; try omega) ?_
  simp only [Act.put, sA9, sB9, sC9]
  refine Step.q_pure rfl (.int .u32 (x2 : Nat)) (fun w' => by unfold execOp; go_simp; exact A2.out) ?_
  simp only [Act.put, sA9, sB9, sC9]
  refine Step.q_pure rfl (.pointer (some ⟨b, 0, none⟩)) (fun w' => by unfold execOp; go_simp) ?_
  simp only [Act.put, sA9, sB9, sC9]
  refine Step.q_field rfl _ _ _ rfl (b) (0) rfl Tryz.underlying191 rfl (sz := 256) (by kernel_rfl) (by decide) (0) rfl ?_
  simp only [Act.put, sA9, sB9, sC9]
  refine Still.q_idxA rfl _ 5 _ _ rfl (b) (0) rfl .u32 (x2) rfl f2 Tryz.underlying175 (size := 1) (by kernel_rfl) (x2) (by omega) ?_
  simp only [Act.put, sA9, sB9, sC9]
  refine Step.q_load1 rfl _ _ rfl (b) (x2) rfl (.int .u8 (s2 : Nat)) (fun w' hw' => (hw'.cell (p := ⟨b, x2, none⟩) (Frame.block_lt (c2))).trans (c2)) Tryz.underlying5 rfl ?_
  simp only [Act.put, sA9, sB9, sC9]
  refine Step.q_pure rfl (.int .u32 (s2 : Nat)) (fun w' => by unfold execOp; go_simp; exact wrap32u _ (Int.natCast_nonneg _) (by omega)) ?_
  simp only [Act.put, sA9, sB9, sC9]
  refine Step.q_pure rfl (.int .u32 (s2 * 256 : Nat)) (fun w' => by unfold execOp; go_simp; exact (wrap32u _ (by omega) (by omega)).trans (by omega)) ?_
  simp only [Act.put, sA9, sB9, sC9]
  refine Step.q_pure rfl (.int .u32 (s0 * 16777216 + s1 * 65536 + s2 * 256 : Nat)) (fun w' => by unfold execOp; go_simp; exact O2.out) ?_
  simp only [Act.put, sA9, sB9, sC9]
  refine Step.q_move rfl _ rfl (.pointer (some ⟨b, 0, none⟩)) rfl ?_
  simp only [Act.put, sA9, sB9, sC9]
  refine Step.q_move rfl _ rfl (.int .u32 (W : Nat)) rfl ?_
  simp only [Act.put, sA9, sB9, sC9]
  refine Step.q_pure rfl (.int .u32 (x3 : Nat)) (fun w' => by unfold execOp; go_simp; exact A3.out) ?_
  simp only [Act.put, sA9, sB9, sC9]
  refine Step.q_pure rfl (.pointer (some ⟨b, 0, none⟩)) (fun w' => by unfold execOp; go_simp) ?_
  simp only [Act.put, sA9, sB9, sC9]
  refine Step.q_field rfl _ _ _ rfl (b) (0) rfl Tryz.underlying191 rfl (sz := 256) (by kernel_rfl) (by decide) (0) rfl ?_
  simp only [Act.put, sA9, sB9, sC9]
  refine Still.q_idxA rfl _ 5 _ _ rfl (b) (0) rfl .u32 (x3) rfl f3 Tryz.underlying175 (size := 1) (by kernel_rfl) (x3) (by omega) ?_
  simp only [Act.put, sA9, sB9, sC9]
  refine Step.q_load1 rfl _ _ rfl (b) (x3) rfl (.int .u8 (s3 : Nat)) (fun w' hw' => (hw'.cell (p := ⟨b, x3, none⟩) (Frame.block_lt (c3))).trans (c3)) Tryz.underlying5 rfl ?_
  simp only [Act.put, sA9, sB9, sC9]
  refine Step.q_pure rfl (.int .u32 (s3 : Nat)) (fun w' => by unfold execOp; go_simp; exact wrap32u _ (Int.natCast_nonneg _) (by omega)) ?_
  simp only [Act.put, sA9, sB9, sC9]
  refine Step.q_pure rfl (.int .u32 (R : Nat)) (fun w' => by unfold execOp; go_simp; exact O3.out) ?_
  simp only [Act.put, sA9, sB9, sC9]
  refine Step.q_assign rfl _ rfl (.int .u32 (R : Nat)) rfl ?_
  simp only [Act.put, sA9, sB9, sC9]
  refine wpQuiet_nil ?_
  intro w4 hb4
  go_wp2
  go_ret
  exact ⟨rfl, hb4⟩
end Go.Proofs.YtmifebcaifbmoaaGreatDoor.Rj
end

/- Rj7 -/
section
namespace Go.Proofs.YtmifebcaifbmoaaGreatDoor.Rj
open Go.RowKit Go.Lib Go.Proofs.YtmifebcaifbmoaaGreatDoor.Blk Go.Proofs.YtmifebcaifbmoaaGreatDoor.Aes Go.Proofs.YtmifebcaifbmoaaGreatDoor.Seg

/-- column c of a state as a word -/
def colW (s : Nat → Nat) (c : Nat) : Nat := wd fun j => s (4 * c + j)
theorem colW_lt {s : Nat → Nat} (hs : Byt s 16) {c : Nat} (hc : c < 4) : colW s c < 4294967296 := wd_lt fun j hj => hs _ (by omega)
theorem colW_byt {s : Nat → Nat} (hs : Byt s 16) {c : Nat} (hc : c < 4) : Byt (fun j => s (4 * c + j)) 4 := fun j hj => hs _ (by omega)
theorem tab_wd (box m : Nat → Nat) (r x : Nat) (hx : x < 256) : tabW box m (r * 256 + x) = wd fun j => gm (box x) (m ((j + 4 - r) % 4)) := by
  unfold tabW
  refine wd_congr fun j _ => ?_
  unfold tabB
  rw [show (r * 256 + x) % 256 = x by omega, show (r * 256 + x) / 256 = r by omega]
theorem tab_lt {box m : Nat → Nat} (hb : Byt box 256) (x : Nat) : tabW box m x < 4294967296 := wd_lt fun j _ => gm_lt _ _ (hb _ (Nat.mod_lt _ (by decide)))
/-- the word that a round makes of a state -/
theorem round_word {box m : Nat → Nat} (hb : Byt box 256) {s k : Nat → Nat} (hs : Byt s 16) (hk : Byt k 16) (step c : Nat) (hc : c < 4) :
    tabW box m (0 * 256 + s (4 * c + 0)) ^^^ tabW box m (1 * 256 + s (4 * ((c + step) % 4) + 1)) ^^^ tabW box m (2 * 256 + s (4 * ((c + 2 * step) % 4) + 2)) ^^^ tabW box m (3 * 256 + s (4 * ((c + 3 * step) % 4) + 3)) ^^^ colW k c =
      colW (fun i => colsB m (rowB box step s) i ^^^ k i) c := by
  have b0 := hs (4 * c + 0) (by omega)
  have b1 := hs (4 * ((c + step) % 4) + 1) (by omega)
  have b2 := hs (4 * ((c + 2 * step) % 4) + 2) (by omega)
  have b3 := hs (4 * ((c + 3 * step) % 4) + 3) (by omega)
  rw [tab_wd _ _ _ _ b0, tab_wd _ _ _ _ b1, tab_wd _ _ _ _ b2, tab_wd _ _ _ _ b3]
  have B : ∀ x r, x < 256 → Byt (fun j => gm (box x) (m ((j + 4 - r) % 4))) 4 := fun x r hx j _ => gm_lt _ _ (hb x hx)
  rw [wd_xor (B _ _ b0) (B _ _ b1), wd_xor (byt_xor (B _ _ b0) (B _ _ b1)) (B _ _ b2), wd_xor (byt_xor (byt_xor (B _ _ b0) (B _ _ b1)) (B _ _ b2)) (B _ _ b3), colW,
    wd_xor (byt_xor (byt_xor (byt_xor (B _ _ b0) (B _ _ b1)) (B _ _ b2)) (B _ _ b3)) (colW_byt hk hc), colW]
  refine wd_congr fun j hj => ?_
  congr 1
  unfold colsB colB rowB
  dsimp only
  rw [show (4 * c + j) / 4 = c by omega, show (4 * c + j) % 4 = j by omega]
  rw [show (4 * c + 0) / 4 = c by omega, show (4 * c + 0) % 4 = 0 by omega, show (4 * c + 1) / 4 = c by omega, show (4 * c + 1) % 4 = 1 by omega, show (4 * c + 2) / 4 = c by omega, show (4 * c + 2) % 4 = 2 by omega, show (4 * c + 3) / 4 = c by omega, show (4 * c + 3) % 4 = 3 by omega]
  rw [show (j + 4 - 0) % 4 = j % 4 by omega, show j + 4 - 1 = j + 3 by omega, show j + 4 - 2 = j + 2 by omega, show j + 4 - 3 = j + 1 by omega]
  rw [show (c + 0 * step) % 4 = c by omega, Nat.one_mul]
/-- the word that the last round makes -/
theorem last_word {box : Nat → Nat} (hb : Byt box 256) {s k : Nat → Nat} (hs : Byt s 16) (hk : Byt k 16) (step c : Nat) (hc : c < 4) :
    (box (s (4 * c + 0)) * 16777216 + box (s (4 * ((c + step) % 4) + 1)) * 65536 + box (s (4 * ((c + 2 * step) % 4) + 2)) * 256 + box (s (4 * ((c + 3 * step) % 4) + 3))) ^^^ colW k c = colW (fun i => rowB box step s i ^^^ k i) c := by
  have e : box (s (4 * c + 0)) * 16777216 + box (s (4 * ((c + step) % 4) + 1)) * 65536 + box (s (4 * ((c + 2 * step) % 4) + 2)) * 256 + box (s (4 * ((c + 3 * step) % 4) + 3)) = colW (rowB box step s) c := by
    have e0 : rowB box step s (4 * c + 0) = box (s (4 * c + 0)) := by unfold rowB; rw [show (4 * c + 0) / 4 = c by omega, show (4 * c + 0) % 4 = 0 by omega, show (c + 0 * step) % 4 = c by omega]
    have e1 : rowB box step s (4 * c + 1) = box (s (4 * ((c + step) % 4) + 1)) := by unfold rowB; rw [show (4 * c + 1) / 4 = c by omega, show (4 * c + 1) % 4 = 1 by omega, Nat.one_mul]
    have e2 : rowB box step s (4 * c + 2) = box (s (4 * ((c + 2 * step) % 4) + 2)) := by unfold rowB; rw [show (4 * c + 2) / 4 = c by omega, show (4 * c + 2) % 4 = 2 by omega]
    have e3 : rowB box step s (4 * c + 3) = box (s (4 * ((c + 3 * step) % 4) + 3)) := by unfold rowB; rw [show (4 * c + 3) / 4 = c by omega, show (4 * c + 3) % 4 = 3 by omega]
    show _ = ((rowB box step s (4 * c + 0) * 256 + rowB box step s (4 * c + 1)) * 256 + rowB box step s (4 * c + 2)) * 256 + rowB box step s (4 * c + 3)
    rw [e0, e1, e2, e3]
    omega
  rw [e, colW, colW, wd_xor (colW_byt (rowB_byt hb hs) hc) (colW_byt hk hc)]
  rfl
end Go.Proofs.YtmifebcaifbmoaaGreatDoor.Rj
end
