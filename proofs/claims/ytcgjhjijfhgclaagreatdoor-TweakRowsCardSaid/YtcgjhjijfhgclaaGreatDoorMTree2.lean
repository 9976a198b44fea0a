/- Plain regions: a struct stored into the middle of a row; clear of a slice. General. -/
import Derived.Test.YtcgjhjijfhgclaaGreatDoorMTree
namespace Go.Proofs.YtcgjhjijfhgclaaGreatDoor.Tree
open Go.RowKit Go.Lib
section
variable {P : Program} {Q : Exit → Act → World → Prop} {a : Act} {w : World} {o : Oper} {ops : Array Oper} {rest : List Oper}
/-- a row with cells laid anew -/
def patch (cur : Array Value) (k : Nat) (vs : List Value) : Array Value := (cur.toList.take k ++ vs ++ cur.toList.drop (k + vs.length)).toArray
theorem patch_size (cur : Array Value) (k : Nat) (vs : List Value) (h : k + vs.length ≤ cur.size) : (patch cur k vs).size = cur.size := by
  simp [patch]; omega
theorem patch_take (cur : Array Value) (k : Nat) (vs : List Value) (h : k + vs.length ≤ cur.size) : ∀ n, n ≤ k → (patch cur k vs).toList.take n = cur.toList.take n := by
  intro n hn
  simp only [patch, List.append_assoc]
  rw [List.take_append_of_le_length (by simp; omega), List.take_take]
  congr 1
  omega
theorem patch_take_in (cur : Array Value) (k : Nat) (vs : List Value) (h : k + vs.length ≤ cur.size) : (patch cur k vs).toList.take (k + vs.length) = cur.toList.take k ++ vs := by
  simp only [patch]
  rw [List.take_append_of_le_length (by simp; omega), List.take_of_length_le (by simp; omega)]
theorem run_storemid (t : TypeId) (w : World) (b off : Nat) (cs : Array Value) (hi : (P.info? t).map (·.size) = some cs.size) (h1 : ∀ v ∈ cs.toList, v.oneCell' = true) {T : TypeId} {cur : Array Value} (hb : w.heap[b]? = some (.cells cur T (0, 0))) (ho : off + cs.size ≤ cur.size) :
    (Instr.storeAt t (.pointer (some ⟨b, off, none⟩)) (.agg cs)).run P w = .ok () (w.setRow b (patch cur off cs.toList)) := by
  cases hie : P.info? t with
  | none => simp [hie] at hi
  | some ie =>
    simp only [hie, Option.map_some, Option.some.injEq] at hi
    have hs : (sizeOf t).run P w = .ok cs.size w := by simp [sizeOf, typeInfo, hie, hi]
    have hst := run_storeCells_at P b off T cs.toList 0 cur w hb (by simpa using ho) h1
    simp only [Nat.add_zero] at hst
    simp [Instr.storeAt, go_sem, storeVar, hs, Value.cells, hst, patch]
theorem p_storemid (hgd : o.guard = none) (t : TypeId) (x y : Operand) (ho : o.op = .store t x y) (b off : Nat) (hx : a.eval x = .pointer (some ⟨b, off, none⟩)) (cs : Array Value) (hy : a.eval y = .agg cs) (hi : (P.info? t).map (·.size) = some cs.size) (h1 : ∀ v ∈ cs.toList, v.oneCell' = true) {T : TypeId} {cur : Array Value} (hb : w.heap[b]? = some (.cells cur T (0, 0))) (hol : off + cs.size ≤ cur.size)
    (h : wpList P ops Q rest (a.put o.dst undef) (w.setRow b (patch cur off cs.toList))) : wpList P ops Q (o :: rest) a w :=
  wpList_plain hgd fun K hK => w_skip (by
    unfold execOp
    simp only [ho, hx, hy, Sem.run_bind, run_storemid t w b off cs hi h1 hb hol, Result.andThen_ok, Sem.run_pure]) (hK _ _ h)
theorem run_clear (t e ty : TypeId) (z : Value) (ht : P.underlying t = some (.slice e)) (hz : ∀ w, (zeroValue e).run P w = .ok z w) (h1 : ∀ v ∈ z.cells.toList, v.oneCell' = true) (hp : 0 < z.cells.size) (w : World) (b off n c : Nat) {T : TypeId} {cur : Array Value} (hb : w.heap[b]? = some (.cells cur T (0, 0))) (hol : off + n * z.cells.size ≤ cur.size) :
    ∃ vs : List Value, vs.length = n * z.cells.size ∧ (Builtin.clear_ #[t] ty #[.slice (some ⟨b, off, none⟩) n c]).run P w = .ok (.tuple #[]) (w.setRow b (patch cur off vs)) := by
  cases n with
  | zero =>
    refine ⟨[], by simp, ?_⟩
    have e0 : patch cur off [] = cur := by simp [patch]
    rw [e0, setRow_self w b cur T (0, 0) hb]
    simp [Builtin.clear_, run_underlying ht]
  | succ m =>
    have hl : (Builtin.zeroCells z.cells (m + 1)).toList.length = (m + 1) * z.cells.size := by simp [Builtin.zeroCells]
    refine ⟨(Builtin.zeroCells z.cells (m + 1)).toList, hl, ?_⟩
    have hst := run_storeCells_at P b off T (Builtin.zeroCells z.cells (m + 1)).toList 0 cur w hb (by rw [hl]; simpa using hol) (by
      intro v hv
      simp only [Builtin.zeroCells, Array.toList_map, List.mem_map] at hv
      obtain ⟨i, _, rfl⟩ := hv
      have hlt : i % z.cells.size < z.cells.size := Nat.mod_lt _ hp
      rw [getElem!_pos z.cells (i % z.cells.size) hlt]
      exact h1 _ (by simp))
    simp only [Nat.add_zero] at hst
    simp [Builtin.clear_, run_underlying ht, hz, hst, patch]
theorem p_clear (hg : Region.wanted o (yielded ops a.tmps) = true) (t e : TypeId) (x : Operand) (ho : o.op = .call { callee := .builtin .clear, args := #[x], argTypes := #[t] }) (z : Value) (ht : P.underlying t = some (.slice e)) (hz : (P.info? e).bind (·.zero) = some z) (h1 : ∀ v ∈ z.cells.toList, v.oneCell' = true) (hp : 0 < z.cells.size)
    (b off n c : Nat) (hx : a.eval x = .slice (some ⟨b, off, none⟩) n c) {T : TypeId} {cur : Array Value} (hb : w.heap[b]? = some (.cells cur T (0, 0))) (hol : off + n * z.cells.size ≤ cur.size)
    (h : ∀ vs : List Value, vs.length = n * z.cells.size → wpList P ops Q rest (a.put o.dst (.tuple #[])) (w.setRow b (patch cur off vs))) : wpList P ops Q (o :: rest) a w := by
  have hz' : ∀ w, (zeroValue e).run P w = .ok z w := fun w => by
    cases hie : P.info? e with
    | none => simp [hie] at hz
    | some ie =>
      simp only [hie, Option.bind_some] at hz
      simp [zeroValue, typeInfo, hie, hz]
  obtain ⟨vs, hl, hr⟩ := run_clear (P := P) t e o.type z ht hz' h1 hp w b off n c hb hol
  refine Step.p_wp hg (Step.w_run _ _ ?_ (h vs hl))
  unfold execOp
  simp only [ho, resolve, invoke, builtin, Sem.run_bind, Sem.run_pure, Result.andThen_ok, List.map_toArray, List.map_cons, List.map_nil, hx, hr]
theorem run_cut_lo (t e : TypeId) (ht : P.underlying t = some (.slice e)) {size : Nat} (hie : (P.info? e).map (·.size) = some size) (w : World) (g off n cap m : Nat) (hm : m ≤ n) (hn : m < cap) :
    (Instr.sliceAt t (.slice (some ⟨g, off, none⟩) n cap) (some (.int .i64 m)) none none).run P w = .ok (.slice (some ⟨g, off + m * size, none⟩) (n - m) (cap - m)) w := by
  cases hi : P.info? e with
  | none => simp [hi] at hie
  | some ie =>
    simp only [hi, Option.map_some, Option.some.injEq] at hie
    have hs : (sizeOf e).run P w = .ok size w := by simp [sizeOf, typeInfo, hi, hie]
    have h1 : (0 : Int) ≤ m ∧ (m : Int) ≤ n := by omega
    have h2 : ¬ cap = m := by omega
    simp [Instr.sliceAt, Instr.slice, go_sem, run_underlying ht, hs, Instr.sliceBounds, Instr.sliceBound, asIntOf, h1, h2, hm, Addr.add_mid]
theorem p_cut_lo (hg : Region.wanted o (yielded ops a.tmps) = true) (t e : TypeId) (x y : Operand) (ho : o.op = .slice t x (some y) none none) (ht : P.underlying t = some (.slice e)) {size : Nat} (hie : (P.info? e).map (·.size) = some size) (g off n cap m : Nat) (hm : m ≤ n) (hn : m < cap) (hx : a.eval x = .slice (some ⟨g, off, none⟩) n cap) (hy : a.eval y = .int .i64 m)
    (h : wpList P ops Q rest (a.put o.dst (.slice (some ⟨g, off + m * size, none⟩) (n - m) (cap - m))) w) : wpList P ops Q (o :: rest) a w :=
  Step.p_val hg _ (by
    unfold execOp
    simp only [ho, Option.map_none, Option.map_some, hx, hy, Sem.run_bind, run_cut_lo t e ht hie w g off n cap m hm hn, Result.andThen_ok, Sem.run_pure]) h
end
end Go.Proofs.YtcgjhjijfhgclaaGreatDoor.Tree
