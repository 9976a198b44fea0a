/- A slice's head; small laws for TweakFields. -/
import Derived.Test.YtfchbodbkdkcfaaRef9
namespace Go.Proofs.Ytfchbodbkdkcfaa.Sl
open Go.RowKit Go.Lib Go.Proofs.Ytfchbodbkdkcfaa.Blk Go.Proofs.Ytfchbodbkdkcfaa.Field

theorem run_head (w : World) (b off : Nat) (len cap n : Nat) (_h : n ≤ cap) : (Instr.sliceAt 49 (.slice (some ⟨b, off, none⟩) len cap) none (some (.int .i64 n)) none).run Try.prog w = .ok (.slice (some ⟨b, off, none⟩) n cap) w := by
  have h1 : (n : Int) ≤ cap := by exact_mod_cast _h
  have h0 : (0 : Int) ≤ n := by omega
  simp [go_sem, Try.underlying49, h1, h0]
theorem build7 (w : World) : (Instr.build 48 #[(0, .int .u8 7)]).run Try.prog w = .ok (B16 7) w := by kernel_rfl
section
variable {P : Program} {o : Oper} {a : Act} {w : World} {K : Act → World → Prop} {Q : Exit → Act → World → Prop}
theorem w_store (ty : TypeId) (x y : Operand) (ho : o.op = .store ty x y) (b : Nat) {k : IntKind} {n : Nat} {f : Nat → Int} (hx : a.eval x = .pointer (some ⟨b, 0, none⟩)) (hy : a.eval y = .agg (arr k n f))
    {t : TypeId} {g : Nat → Int} (hA : Arr w b k n t g) (hi : (P.info? ty).map (·.size) = some n)
    (h : ∀ w', Arr w' b k n t f → w.grownBy w' (some b) → w'.heap.size = w.heap.size → K (a.put o.dst undef) w') : o.wp P a w K Q := by
  refine wp_store_row ty x y ho b (arr k n f) hx hy t (arr k n g) hA (by rw [arr_size]; exact hi) (by rw [arr_size, arr_size]) (arr_one _ _ _) ?_
  exact h _ (setRow_heap w b _ _ t _ hA) ⟨rfl, rfl, rfl, by simp, fun c _ hc => setRow_other w b c _ (fun e => hc (by rw [e]))⟩ (by simp)
theorem x_len (x : Operand) (t e : TypeId) (ho : o.op = .call { callee := .builtin .len, args := #[x], argTypes := #[t] }) (q : Option Addr) (n c : Nat) (hx : a.eval x = .slice q n c) (hu : P.underlying t = some (.slice e)) (w : World) :
    (execOp a.eval o).run P w = .ok (.value (.int .i64 n)) w := by
  unfold execOp
  simp [ho, hx, resolve, invoke, builtin, Builtin.len_, run_underlying hu, goInt]
end
theorem x_head {o : Oper} {a : Act} (x y : Operand) (ho : o.op = .slice 49 x none (some y) none) (b off : Nat) (len cap n : Nat) (hx : a.eval x = .slice (some ⟨b, off, none⟩) len cap) (hy : a.eval y = .int .i64 n) (h : n ≤ cap) (w : World) :
    (execOp a.eval o).run Try.prog w = .ok (.value (.slice (some ⟨b, off, none⟩) n cap)) w := by
  unfold execOp
  rw [ho]
  simp only [Option.map_none, Option.map_some, hx, hy, Sem.run_bind, run_head w b off len cap n h, Result.andThen_ok, Sem.run_pure]
theorem alloc0 (w : World) : (Instr.alloc 48 true (.tuple #[])).run Try.prog w = .ok (.pointer (some ⟨w.heap.size, 0, none⟩)) (w.alloc (.cells (arr .u8 16 fun _ => 0) 48)) := by kernel_rfl
theorem w_alloc {o : Oper} {a : Act} {w : World} {K : Act → World → Prop} {Q : Exit → Act → World → Prop} (ho : o.op = .alloc 48)
    (h : ∀ X w', X = w.heap.size → Arr w' X .u8 16 48 (fun _ => 0) → Below w.heap.size w w' → K (a.put o.dst (.pointer (some ⟨X, 0, none⟩))) w') : o.wp Try.prog a w K Q :=
  Held.w_run _ _ (by
    unfold execOp
    rw [ho]
    simp only [Sem.run_bind, alloc0 w, Result.andThen_ok, Sem.run_pure]) (h _ _ rfl (Arr.new w .u8 16 _ _) ((Below.refl _ _).alloc (Nat.le_refl _) _))
end Go.Proofs.Ytfchbodbkdkcfaa.Sl
