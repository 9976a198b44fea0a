/- Stretches of a block that hold arrays of numbers: built, boxed, stored and loaded. General. -/
import Derived.Test.YtcgjhjijfhgclaaGreatDoorMNew
import Derived.Test.YtcgjhjijfhgclaaGreatDoorMTree2
import Derived.Great.BuildSlice
namespace Go.Proofs.YtcgjhjijfhgclaaGreatDoor.Seg
open Go.RowKit Go.Lib Go.Proofs.YtcgjhjijfhgclaaGreatDoor.Blk

/-- from place off on, n numbers -/
def Sg (cs : Array Value) (off : Nat) (k : IntKind) (n : Nat) (f : Nat → Int) : Prop := ∀ i, i < n → cs[off + i]? = some (.int k (f i))
theorem fold_size : ∀ (l : List Value) (n off : Nat) (cs : Array Value), ((l.zipIdx n).foldl (fun cs (p : Value × Nat) => cs.setIfInBounds (off + p.2) p.1) cs).size = cs.size
  | [], _, _, _ => rfl
  | v :: l, n, off, cs => by
    rw [List.zipIdx_cons, List.foldl_cons, fold_size l]
    simp
theorem fold_out : ∀ (l : List Value) (n off : Nat) (cs : Array Value) (k : Nat), k < off + n → ((l.zipIdx n).foldl (fun cs (p : Value × Nat) => cs.setIfInBounds (off + p.2) p.1) cs)[k]? = cs[k]?
  | [], _, _, _, _, _ => rfl
  | v :: l, n, off, cs, k, h => by
    rw [List.zipIdx_cons, List.foldl_cons, fold_out l (n + 1) off _ k (by omega), Array.getElem?_setIfInBounds_ne (by dsimp only; omega)]
theorem fold_get : ∀ (l : List Value) (n off : Nat) (cs : Array Value) (k : Nat), off + n ≤ k → k < off + n + l.length → k < cs.size →
    ((l.zipIdx n).foldl (fun cs (p : Value × Nat) => cs.setIfInBounds (off + p.2) p.1) cs)[k]? = l[k - off - n]?
  | [], _, _, _, k, h1, h2, _ => by simp at h2; omega
  | v :: l, n, off, cs, k, h1, h2, h3 => by
    rw [List.zipIdx_cons, List.foldl_cons]
    by_cases e : k = off + n
    · subst e
      rw [fold_out l (n + 1) off _ (off + n) (by omega)]
      simp [h3]
    · rw [fold_get l (n + 1) off _ k (by omega) (by simp at h2; omega) (by simpa using h3)]
      rw [show k - off - n = (k - off - (n + 1)) + 1 by omega, List.getElem?_cons_succ]
theorem patch_in (cur : Array Value) (k : Nat) (vs : List Value) (h : k + vs.length ≤ cur.size) (j : Nat) (hj : j < vs.length) : (Tree.patch cur k vs)[k + j]? = vs[j]? := by
  simp only [Tree.patch, List.getElem?_toArray, List.append_assoc]
  rw [List.getElem?_append_right (by simp; omega), List.getElem?_append_left (by simp; omega)]
  congr 1
  simp
  omega
theorem patch_out (cur : Array Value) (k : Nat) (vs : List Value) (h : k + vs.length ≤ cur.size) (j : Nat) (hj : j < k ∨ k + vs.length ≤ j) : (Tree.patch cur k vs)[j]? = cur[j]? := by
  simp only [Tree.patch, List.getElem?_toArray, List.append_assoc]
  rcases hj with hj | hj
  · rw [List.getElem?_append_left (by simp; omega), List.getElem?_take, if_pos hj, Array.getElem?_toList]
  · rw [List.getElem?_append_right (by simp; omega), List.getElem?_append_right (by simp; omega), List.getElem?_drop, ← Array.getElem?_toList]
    congr 1
    simp
    omega
theorem Sg.patched (cur : Array Value) (off : Nat) (k : IntKind) (n : Nat) (f : Nat → Int) (h : off + n ≤ cur.size) : Sg (Tree.patch cur off (arr k n f).toList) off k n f := fun i hi => by
  have hl : (arr k n f).toList.length = n := by rw [Array.length_toList, arr_size]
  rw [patch_in cur off _ (by rw [hl]; exact h) i (by rw [hl]; exact hi), Array.getElem?_toList, arr_get k n f i hi]
theorem Sg.kept {cur : Array Value} {off : Nat} {k : IntKind} {n : Nat} {f : Nat → Int} (h : Sg cur off k n f) {o2 : Nat} {vs : List Value} (hl : o2 + vs.length ≤ cur.size) (hd : off + n ≤ o2 ∨ o2 + vs.length ≤ off) : Sg (Tree.patch cur o2 vs) off k n f := fun i hi => by
  rw [patch_out cur o2 vs hl _ (by omega)]
  exact h i hi
theorem Sg.range {w : World} {b off : Nat} {cs : Array Value} {t : TypeId} {k : IntKind} {n : Nat} {f : Nat → Int} (h : w.heap[b]? = some (.cells cs t (0, 0))) (hs : Sg cs off k n f) : w.rangeAt b off (arr k n f).toList := fun j v hj => by
  have hl := (List.getElem?_eq_some_iff.1 hj).1
  rw [Array.length_toList, arr_size] at hl
  rw [cell_of_row w b (off + j) _ _ _ h, hs j hl, ← hj, Array.getElem?_toList, arr_get k n f j hl]
section
variable {P : Program} {ops : Array Oper} {Q : Exit → Act → World → Prop} {a : Act} {w : World} {o : Oper} {rest : List Oper}
/-- a struct literal with one field given, an array -/
theorem p_build1 (hg : Region.wanted o (yielded ops a.tmps) = true) (t : TypeId) (i : Nat) (x : Operand) (ho : o.op = .build t #[(i, x)]) (cs : Array Value) (hx : a.eval x = .agg cs) (z : Array Value) (hz : (P.info? t).bind (·.zero) = some (.agg z))
    {fs : Array Field} (hu : P.underlying t = some (.struct fs)) (places : List (Nat × Nat)) (hpl : fs.toList.mapM (fun f => (P.info? f.type).map fun i => (f.offset, i.size)) = some places) (off : Nat) (hp : places.toArray[i]? = some (off, cs.size)) (hle : off + cs.size ≤ z.size)
    (h : ∀ C : Array Value, C.size = z.size → (∀ j, j < cs.size → C[off + j]? = cs[j]?) → wpList P ops Q rest (a.put o.dst (.agg C)) w) : wpList P ops Q (o :: rest) a w := by
  have hl : (cs.zipIdx.foldl (fun cs (p : Value × Nat) => cs.setIfInBounds (off + p.2) p.1) z) = ((cs.toList.zipIdx 0).foldl (fun cs (p : Value × Nat) => cs.setIfInBounds (off + p.2) p.1) z) := by
    rw [← Array.foldl_toList, Array.toList_zipIdx]
  have hb : P.built t [(i, .agg cs)] = some (cs.zipIdx.foldl (fun cs (p : Value × Nat) => cs.setIfInBounds (off + p.2) p.1) z) := by
    unfold Program.built
    cases hie : P.info? t with
    | none => simp [hie] at hz
    | some ie =>
      simp only [hie, Option.bind_some] at hz
      rw [hu]
      have hcond : (decide ((Value.agg cs).cells.size ≠ cs.size) || decide (off + (Value.agg cs).cells.size > (Value.agg z).cells.size)) = false := by
        show (decide (cs.size ≠ cs.size) || decide (off + cs.size > z.size)) = false
        simp
        omega
      simp only [hz, hpl, Instr.fill, hp, hcond, Bool.false_eq_true, if_false]
      rfl
  refine Step.p_val hg (.agg (cs.zipIdx.foldl (fun cs (p : Value × Nat) => cs.setIfInBounds (off + p.2) p.1) z)) ?_ (h _ ?_ ?_)
  · unfold execOp
    rw [ho]
    simp only [List.map_toArray, List.map_cons, List.map_nil, hx, Sem.run_bind, run_build (P := P) w t #[(i, .agg cs)] _ hb, Result.andThen_ok, Sem.run_pure]
  · rw [hl, fold_size]
  · intro j hj
    rw [hl, fold_get cs.toList 0 off z (off + j) (by omega) (by simpa using hj) (by omega), ← Array.getElem?_toList]
    congr 1
    omega
/-- four numbers as a slice -/
theorem p_lit4 (hg : Region.wanted o (yielded ops a.tmps) = true) (t e : TypeId) (x0 x1 x2 x3 : Operand) (ho : o.op = .buildSlice t 4 #[(0, x0), (1, x1), (2, x2), (3, x3)]) (k : IntKind) (c0 c1 c2 c3 : Int) (e0 : a.eval x0 = .int k c0) (e1 : a.eval x1 = .int k c1) (e2 : a.eval x2 = .int k c2) (e3 : a.eval x3 = .int k c3)
    (hu : P.underlying t = some (.slice e)) {ie : TypeInfo} {z : Value} (hie : P.info? e = some ie) (hz : ie.zero = some z) (hs : ie.size = 1)
    (h : wpList P ops Q rest (a.put o.dst (.slice (some ⟨w.heap.size, 0, none⟩) 4 4)) (w.alloc (.cells #[.int k c0, .int k c1, .int k c2, .int k c3] e))) : wpList P ops Q (o :: rest) a w := by
  refine Step.p_wp hg (wp_buildSlice t e 4 _ ho _ ie z hu hie hz (by rw [hs]; decide) (by rw [hs]; decide) ?_ h)
  simp only [List.map_toArray, List.map_cons, List.map_nil, e0, e1, e2, e3, hs]
  have := Great.fill_whole (s := 1) (by decide) [.int k c0, .int k c1, .int k c2, .int k c3] ((Array.range (4 * 1)).map (z.cells[· % z.cells.size]!)) (fun v hv => by
    simp only [List.mem_cons, List.not_mem_nil, or_false] at hv
    rcases hv with rfl | rfl | rfl | rfl <;> rfl) (by simp)
  simpa [Value.cells] using this
/-- a value of whatever cells is boxed -/
theorem p_boxA (hg : Region.wanted o (yielded ops a.tmps) = true) (ty : TypeId) (x : Operand) (ho : o.op = .box ty x) (C : Array Value) (hx : a.eval x = .agg C)
    (h : wpList P ops Q rest (a.put o.dst (.pointer (some ⟨w.heap.size, 0, none⟩))) (w.alloc (.cells C ty))) : wpList P ops Q (o :: rest) a w := by
  refine Step.p_wp hg (Step.w_run (.pointer (some ⟨w.heap.size, 0, none⟩)) (w.alloc (.cells C ty)) (by
    unfold execOp
    rw [ho]
    simp only [hx]
    simp [Instr.box, newVar, newRow, go_sem, Value.cells]) h)
end
end Go.Proofs.YtcgjhjijfhgclaaGreatDoor.Seg
