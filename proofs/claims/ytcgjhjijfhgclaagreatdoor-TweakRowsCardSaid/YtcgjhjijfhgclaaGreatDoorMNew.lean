/- Operations of plain regions by hand: a new variable; arrays loaded, stored, and their elements. General. -/
import Derived.Test.YtcgjhjijfhgclaaGreatDoorMStep
import Derived.Test.YtcgjhjijfhgclaaGreatDoorMBlk
namespace Go.Proofs.YtcgjhjijfhgclaaGreatDoor.New
open Go.RowKit Go.Lib Go.Proofs.YtcgjhjijfhgclaaGreatDoor.Blk
section
variable {P : Program} {ops : Array Oper} {Q : Exit → Act → World → Prop} {a : Act} {w : World} {o : Oper} {rest : List Oper}
/-- a new variable -/
theorem p_new (hg : Region.wanted o (yielded ops a.tmps) = true) (ty : TypeId) (ho : o.op = .alloc ty) {z : Value} (hz : (P.info? ty).bind (·.zero) = some z) (h : wpList P ops Q rest (a.put o.dst (.pointer (some ⟨w.heap.size, 0, none⟩))) (w.alloc (.cells z.cells ty))) : wpList P ops Q (o :: rest) a w := by
  cases hie : P.info? ty with
  | none => simp [hie] at hz
  | some ie =>
    simp only [hie, Option.bind_some] at hz
    refine Step.p_wp hg (Step.w_run _ _ (by
      unfold execOp
      have h0 : (zeroValue ty).run P w = .ok z w := by simp [zeroValue, typeInfo, hie, hz]
      simp [ho, Instr.alloc, newVar, newRow, go_sem, h0]) h)
/-- a new array of numbers, all zero -/
theorem p_newarr (hg : Region.wanted o (yielded ops a.tmps) = true) (ty : TypeId) (ho : o.op = .alloc ty) (k : IntKind) (n : Nat) (hz : (P.info? ty).bind (·.zero) = some (.agg (arr k n fun _ => 0)))
    (h : ∀ w', Arr w' w.heap.size k n ty (fun _ => 0) → w.grownBy w' none → w'.heap.size = w.heap.size + 1 → wpList P ops Q rest (a.put o.dst (.pointer (some ⟨w.heap.size, 0, none⟩))) w') : wpList P ops Q (o :: rest) a w :=
  p_new hg ty ho hz (h _ (Arr.new w k n ty _) (World.grownBy_alloc w _ none) (by simp))
/-- a value is boxed -/
theorem p_box (hg : Region.wanted o (yielded ops a.tmps) = true) (ty : TypeId) (x : Operand) (ho : o.op = .box ty x) (k : IntKind) (n : Nat) (f : Nat → Int) (hx : a.eval x = .agg (arr k n f))
    (h : ∀ w', Arr w' w.heap.size k n ty f → w.grownBy w' none → w'.heap.size = w.heap.size + 1 → wpList P ops Q rest (a.put o.dst (.pointer (some ⟨w.heap.size, 0, none⟩))) w') : wpList P ops Q (o :: rest) a w := by
  refine Step.p_wp hg (Step.w_run (.pointer (some ⟨w.heap.size, 0, none⟩)) (w.alloc (.cells (arr k n f) ty)) (by
    unfold execOp
    rw [ho]
    simp only [hx]
    simp [Instr.box, newRow, go_sem, Value.cells]) (h _ (Arr.new w k n ty _) (World.grownBy_alloc w _ none) (by simp)))
/-- an element of an array by value -/
theorem run_index_arr {t e : TypeId} {n : Nat} {k : IntKind} (h : P.underlying t = some (.array n e)) (he : P.underlying e = some (.int k)) (hsz : (P.info? e).map (·.size) = some 1) (f : Nat → Int) (i : Nat) (hi : i < n) (w : World) :
    (Instr.index t (.agg (arr k n f)) (.int .i64 i)).run P w = .ok (.int k (f i)) w := by
  cases hie : P.info? e with
  | none => simp [hie] at hsz
  | some ie =>
    simp only [hie, Option.map_some, Option.some.injEq] at hsz
    have hs : (sizeOf e).run P w = .ok 1 w := by simp [sizeOf, typeInfo, hie, hsz]
    have hb : (0 : Int) ≤ i ∧ (i : Int) < n := by omega
    have hg : (isAgg e).run P w = .ok false w := by simp [isAgg, go_sem, run_underlying he]
    have hc := arr_get k n f i hi
    have hni : ¬ n ≤ i := by omega
    simp [Instr.index, run_underlying h, asIntOf, hs, go_sem, part, hg, hc, hi]
end
end Go.Proofs.YtcgjhjijfhgclaaGreatDoor.New
