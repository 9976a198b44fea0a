/- A drawn region of reads before one store: the reads one by one, in one world; elements of arrays behind a pointer. General. -/
import Derived.Test.YtcgjhjijfhgclaaGreatDoorMSeg
import Derived.StillTail
namespace Go.Proofs.YtcgjhjijfhgclaaGreatDoor.Still
open Go.RowKit Go.Lib Go.Proofs.YtcgjhjijfhgclaaGreatDoor.Blk
section
variable {P : Program} {w : World}
theorem run_idxA {t e : TypeId} {n size : Nat} (hu : P.underlying t = some (.array n e)) (hi : (P.info? e).map (·.size) = some size) (b off : Nat) (k : IntKind) (j : Nat) (hj : j < n) (w : World) :
    (Instr.indexAt t (.pointer (some ⟨b, off, none⟩)) (.int k j)).run P w = .ok (.pointer (some ⟨b, off + j * size, none⟩)) w := by
  cases hie : P.info? e with
  | none => simp [hie] at hi
  | some ie =>
    simp only [hie, Option.map_some, Option.some.injEq] at hi
    subst hi
    have h1 : (0 : Int) ≤ j ∧ (j : Int) < n := by omega
    simp [Instr.indexAt, run_underlying hu, Instr.sureAddr, asIntOf, h1, hj, sizeOf, typeInfo, hie, Addr.add_mid]
theorem run_idxS {t e : TypeId} {size : Nat} (hu : P.underlying t = some (.slice e)) (hi : (P.info? e).map (·.size) = some size) (b off len cap : Nat) (k : IntKind) (j : Nat) (hj : j < len) (w : World) :
    (Instr.indexAt t (.slice (some ⟨b, off, none⟩) len cap) (.int k j)).run P w = .ok (.pointer (some ⟨b, off + j * size, none⟩)) w := by
  cases hie : P.info? e with
  | none => simp [hie] at hi
  | some ie =>
    simp only [hie, Option.map_some, Option.some.injEq] at hi
    subst hi
    have h1 : (0 : Int) ≤ j ∧ (j : Int) < len := by omega
    simp [Instr.indexAt, asIntOf, run_underlying hu, sizeOf, typeInfo, hie, h1, hj, Addr.add_mid]
end
section
variable {P : Program} {ops : Array Oper} {a : Act} {w : World} {o : Oper} {rest : List Oper} {Q : Act → Prop}
theorem s_val (hg : Region.wanted o (yielded ops a.tmps) = true) (v : Value) (hv : (execOp a.eval o).run P w = .ok (.value v) w) (h : wpStill P ops w Q rest (a.put o.dst v)) : wpStill P ops w Q (o :: rest) a := by
  unfold wpStill
  rw [if_pos hg]
  unfold Oper.still
  rw [hv, Oper.stillUpon_value]
  exact h
theorem s_move (hg : Region.wanted o (yielded ops a.tmps) = true) (x : Operand) (ho : o.op = .move x) (v : Value) (hv : a.eval x = v) (h : wpStill P ops w Q rest (a.put o.dst v)) : wpStill P ops w Q (o :: rest) a :=
  s_val hg v (by unfold execOp; rw [ho]; simp [hv]) h
theorem s_load1 (hg : Region.wanted o (yielded ops a.tmps) = true) (ty : TypeId) (x : Operand) (ho : o.op = .load ty x) (b off : Nat) (hx : a.eval x = .pointer (some ⟨b, off, none⟩)) {d : TypeDesc} (v : Value) (hA : w.cell? ⟨b, off, none⟩ = some v) (hu : P.underlying ty = some d) (hd : Step.oneD d = true)
    (h : wpStill P ops w Q rest (a.put o.dst v)) : wpStill P ops w Q (o :: rest) a :=
  s_val hg v (by
    unfold execOp
    simp only [ho, hx, Instr.loadAt, Instr.sureAddr, Sem.run_bind, Sem.run_pure, Result.andThen_ok, Step.run_load1 ty b off hu hd hA]) h
theorem s_idxA (hg : Region.wanted o (yielded ops a.tmps) = true) (t e : TypeId) (x ix : Operand) (ho : o.op = .indexAddr t x ix) (b off : Nat) (hx : a.eval x = .pointer (some ⟨b, off, none⟩)) (k : IntKind) (j : Nat) (hj : a.eval ix = .int k j) {n size : Nat} (hlt : j < n)
    (hu : P.underlying t = some (.array n e)) (hi : (P.info? e).map (·.size) = some size) (off2 : Nat) (ho2 : off + j * size = off2) (h : wpStill P ops w Q rest (a.put o.dst (.pointer (some ⟨b, off2, none⟩)))) : wpStill P ops w Q (o :: rest) a :=
  s_val hg _ (by
    subst ho2
    unfold execOp
    simp only [ho, hx, hj, Sem.run_bind, run_idxA hu hi b off k j hlt w, Result.andThen_ok, Sem.run_pure]) h
theorem s_idxS (hg : Region.wanted o (yielded ops a.tmps) = true) (t e : TypeId) (x ix : Operand) (ho : o.op = .indexAddr t x ix) (b off len cap : Nat) (hx : a.eval x = .slice (some ⟨b, off, none⟩) len cap) (k : IntKind) (j : Nat) (hj : a.eval ix = .int k j) {size : Nat} (hlt : j < len)
    (hu : P.underlying t = some (.slice e)) (hi : (P.info? e).map (·.size) = some size) (off2 : Nat) (ho2 : off + j * size = off2) (h : wpStill P ops w Q rest (a.put o.dst (.pointer (some ⟨b, off2, none⟩)))) : wpStill P ops w Q (o :: rest) a :=
  s_val hg _ (by
    subst ho2
    unfold execOp
    simp only [ho, hx, hj, Sem.run_bind, run_idxS hu hi b off len cap k j hlt w, Result.andThen_ok, Sem.run_pure]) h
variable {C : World → Prop} {Q2 : Act → Prop}
theorem q_idxA (hg : Region.wanted o (yielded ops a.tmps) = true) (t e : TypeId) (x ix : Operand) (ho : o.op = .indexAddr t x ix) (b off : Nat) (hx : a.eval x = .pointer (some ⟨b, off, none⟩)) (k : IntKind) (j : Nat) (hj : a.eval ix = .int k j) {n size : Nat} (hlt : j < n)
    (hu : P.underlying t = some (.array n e)) (hi : (P.info? e).map (·.size) = some size) (off2 : Nat) (ho2 : off + j * size = off2) (h : wpQuiet P ops C Q2 rest (a.put o.dst (.pointer (some ⟨b, off2, none⟩)))) : wpQuiet P ops C Q2 (o :: rest) a :=
  Step.q_pure hg _ (fun w => by
    subst ho2
    unfold execOp
    simp only [ho, hx, hj, Sem.run_bind, run_idxA hu hi b off k j hlt w, Result.andThen_ok, Sem.run_pure]) h
variable {QQ : Exit → Act → World → Prop}
theorem p_idxA (hg : Region.wanted o (yielded ops a.tmps) = true) (t e : TypeId) (x ix : Operand) (ho : o.op = .indexAddr t x ix) (b off : Nat) (hx : a.eval x = .pointer (some ⟨b, off, none⟩)) (k : IntKind) (j : Nat) (hj : a.eval ix = .int k j) {n size : Nat} (hlt : j < n)
    (hu : P.underlying t = some (.array n e)) (hi : (P.info? e).map (·.size) = some size) (off2 : Nat) (ho2 : off + j * size = off2) (h : wpList P ops QQ rest (a.put o.dst (.pointer (some ⟨b, off2, none⟩))) w) : wpList P ops QQ (o :: rest) a w :=
  Step.p_val hg _ (by
    subst ho2
    unfold execOp
    simp only [ho, hx, hj, Sem.run_bind, run_idxA hu hi b off k j hlt w, Result.andThen_ok, Sem.run_pure]) h
/-- the end of an array behind a pointer, as a slice -/
theorem p_sliceA (hg : Region.wanted o (yielded ops a.tmps) = true) (t e : TypeId) (x y : Operand) (ho : o.op = .slice t x (some y) none none) (b : Nat) (hx : a.eval x = .pointer (some ⟨b, 0, none⟩)) (lo n : Nat) (z : Int) (hy : a.eval y = .int .i64 z) (hz : z = lo) (hlt : lo < n)
    (hu : P.underlying t = some (.array n e)) (hi : (P.info? e).map (·.size) = some 1) (h : wpList P ops QQ rest (a.put o.dst (.slice (some ⟨b, lo, none⟩) (n - lo) (n - lo))) w) : wpList P ops QQ (o :: rest) a w :=
  Step.p_val hg _ (by
    subst hz
    unfold execOp
    cases hie : P.info? e with
    | none => simp [hie] at hi
    | some ie =>
      simp only [hie, Option.map_some, Option.some.injEq] at hi
      have hs : (sizeOf e).run P w = .ok 1 w := by simp [sizeOf, typeInfo, hie, hi]
      have h1 : (0 : Int) ≤ lo ∧ (lo : Int) ≤ n := by omega
      have h2 : ¬ n < lo := by omega
      have h3 : ¬ n = lo := by omega
      have hr : (Instr.sliceAt t (.pointer (some ⟨b, 0, none⟩)) (some (.int .i64 lo)) none none).run P w = .ok (.slice (some ⟨b, lo, none⟩) (n - lo) (n - lo)) w := by
        simp [Instr.sliceAt, go_sem, run_underlying hu, hs, Instr.sliceBounds, Instr.sliceBound, Instr.sureAddr, asIntOf, h1, h2, h3, Addr.add_mid]
      simp only [ho, hx, hy, Option.map_some, Option.map_none, Sem.run_bind, hr, Result.andThen_ok, Sem.run_pure]) h
/-- a number is stored into a block of numbers -/
theorem p_storeA (hgd : o.guard = none) (t : TypeId) (x y : Operand) (ho : o.op = .store t x y) (b off : Nat) (hx : a.eval x = .pointer (some ⟨b, off, none⟩)) (k : IntKind) (v : Int) (hy : a.eval y = .int k v) {n : Nat} {T : TypeId} {f : Nat → Int} (hA : Arr w b k n T f) (hol : off < n) (hi : (P.info? t).map (·.size) = some 1)
    (h : wpList P ops QQ rest (a.put o.dst undef) (w.setCell ⟨b, off, none⟩ (.int k v))) : wpList P ops QQ (o :: rest) a w :=
  wpList_plain hgd fun K hK => Tree.w_skip (by
    unfold execOp
    cases hie : P.info? t with
    | none => simp [hie] at hi
    | some ie =>
      simp only [hie, Option.map_some, Option.some.injEq] at hi
      have hs : (sizeOf t).run P w = .ok 1 w := by simp [sizeOf, typeInfo, hie, hi]
      have hc := hA.cell hol
      have hf := hA.free off
      have hr : (Instr.storeAt t (.pointer (some ⟨b, off, none⟩)) (.int k v)).run P w = .ok () (w.setCell ⟨b, off, none⟩ (.int k v)) := by simp [Instr.storeAt, go_sem, storeVar, hs, storeCells, hc, hf]
      simp only [ho, hx, hy, Sem.run_bind, hr, Result.andThen_ok, Sem.run_pure]) (hK _ _ h)
end
end Go.Proofs.YtcgjhjijfhgclaaGreatDoor.Still
