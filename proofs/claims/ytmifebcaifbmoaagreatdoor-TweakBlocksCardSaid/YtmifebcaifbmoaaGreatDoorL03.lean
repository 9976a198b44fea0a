/- Parts of the proof of TweakBlocks. Tree: The tail of a drawn region that copies a list, lays a mark behind it, cuts it and stores it: 'x.f = append(append([]T{}, q...), mark)[:n]'. General. Tree2: Plain regions: a struct stored into the middle of a row; clear of a slice. General. Seg: Stretches of a block that hold arrays of numbers: built, boxed, stored and loaded. General. Rj5: rijndael: the tables of a key. -/
import Derived.Test.YtmifebcaifbmoaaGreatDoorChecked
import Derived.Test.YtmifebcaifbmoaaGreatDoorL00
import Derived.Deep.Cut
import Derived.Deep.CutRange
import Derived.Deep.QuietTactic
import Derived.BigQuiet
import Derived.LoopTactic
import Derived.Laws.AppendOwnNone
import Derived.Laws.OwnMore
import Derived.Maps.AppendAt
import Derived.ArgAppend
import Derived.WalkSmall
import Derived.WalkSpells
import Derived.Lib.SmallJoins
import Derived.Deep.Slices
import Derived.ChangeSlices
import Derived.ChangeMaps5
import Derived.Test.YtmifebcaifbmoaaGreatDoorL01
import Derived.Great.BuildSlice
import Derived.Test.YtmifebcaifbmoaaGreatDoorL02
/- Tree -/
section
namespace Go.Proofs.YtmifebcaifbmoaaGreatDoor.Tree
open Go.RowKit Go.Lib
section
variable {P : Program} {K : Act → World → Prop} {Q : Exit → Act → World → Prop} {o : Oper} {a : Act} {w : World}
theorem w_oneC (t e : TypeId) (x : Operand) (ho : o.op = .buildSlice t 1 #[(0, x)]) (cs : Array Value) {n : Nat} (hcs : cs.size = n)
    (hx : a.eval x = .agg cs) (hu : P.underlying t = some (.slice e)) (hi : (P.info? e).map (·.size) = some n) (hz : ((P.info? e).bind (·.zero)).isSome = true) (hn : 0 < n) (hn2 : n ≤ 2 ^ 24)
    (h : K (a.put o.dst (.slice (some ⟨w.heap.size, 0, none⟩) 1 1)) (w.alloc (.cells cs e))) : o.wp P a w K Q := by
  cases hie : P.info? e with
  | none => simp [hie] at hi
  | some ie =>
    simp only [hie, Option.map_some, Option.some.injEq, Option.bind_some] at hi hz
    obtain ⟨z, hzz⟩ := Option.isSome_iff_exists.1 hz
    refine wp_buildSlice t e 1 _ ho _ ie z hu hie hzz (by rw [hi]; omega) (by rw [hi]; omega) ?_ h
    simp only [List.map_toArray, List.map_cons, List.map_nil, hx, hi]
    have := Great.fill_whole (s := n) hn [.agg cs] ((Array.range (1 * n)).map (z.cells[· % z.cells.size]!)) (fun v hv => by simp only [List.mem_singleton] at hv; subst hv; simp [Value.cells, hcs]) (by simp)
    simpa [Value.cells] using this
end
section
variable {P : Program} {Q : Exit → Act → World → Prop} {S : World → Prop} {a : Act} {w : World} {fuel : Nat} {listed : Array Bool} {i : Nat} {o : Oper} {tl l : List Oper} (hi : l.drop i = o :: tl) (hg : Region.wanted o (yielded l.toArray a.tmps) = true) (hs : Region.noSelect l.toArray = true) (hf : Region.free .any l.toArray listed i = true) (hr : (Region.ready .any l.toArray listed).contains i = true) (hS : S w)
include hi hg hs hf hr hS
theorem t_load1 (ty : TypeId) (x : Operand) (ho : o.op = .load ty x) (b off : Nat) (hx : a.eval x = .pointer (some ⟨b, off, none⟩)) {d : TypeDesc} (v : Value) (hA : ∀ w, S w → w.cell? ⟨b, off, none⟩ = some v) (hu : P.underlying ty = some d) (hd : Step.oneD d = true)
    (h : wpAnyH P .any l.toArray (NoPanic Q) S fuel (listed.setIfInBounds i true) (a.put o.dst v) w) : wpAnyH P .any l.toArray (NoPanic Q) S (fuel + 1) listed a w :=
  Step.t_val hi hg hs hf hr hS v (fun w hw => by
    unfold execOp
    simp only [ho, hx, Instr.loadAt, Instr.sureAddr, Sem.run_bind, Sem.run_pure, Result.andThen_ok, Step.run_load1 ty b off hu hd (hA w hw)]) h
theorem t_field (s : TypeId) (x : Operand) (f : Nat) (ho : o.op = .fieldAddr s x f) (b off : Nat) (hx : a.eval x = .pointer (some ⟨b, off, none⟩)) {fs : Array Field} {fd : Field} (hu : P.underlying s = some (.struct fs)) (hfd : fs[f]? = some fd) {sz : Nat} (hi' : (P.info? fd.type).map (·.size) = some sz) (hsz : sz ≠ 0) (off2 : Nat) (ho2 : off + fd.offset = off2)
    (h : wpAnyH P .any l.toArray (NoPanic Q) S fuel (listed.setIfInBounds i true) (a.put o.dst (.pointer (some ⟨b, off2, none⟩))) w) : wpAnyH P .any l.toArray (NoPanic Q) S (fuel + 1) listed a w :=
  Step.t_val hi hg hs hf hr hS _ (fun w _ => by
    subst ho2
    unfold execOp
    simp only [ho, hx, Sem.run_bind, Step.run_field0 s b off f hu hfd hi' hsz, Result.andThen_ok, Sem.run_pure]) h
end
section
variable {P : Program} {Q : Exit → Act → World → Prop} {S : World → Prop} {a : Act} {w0 : World}
theorem w_skip {o : Oper} {w w' : World} {K : Act → World → Prop} (hr : (execOp a.eval o).run P w = .ok .skip w') (h : K (a.put o.dst undef) w') : o.wp P a w K Q := by
  unfold Oper.wp; rw [hr]; exact h

end
/-! plain regions, operation by operation -/
section
variable {P : Program} {ops : Array Oper} {Q : Exit → Act → World → Prop} {a : Act} {w : World} {o : Oper} {rest : List Oper} (hg : Region.wanted o (yielded ops a.tmps) = true)
include hg
theorem p_field (s : TypeId) (x : Operand) (f : Nat) (ho : o.op = .fieldAddr s x f) (b off : Nat) (hx : a.eval x = .pointer (some ⟨b, off, none⟩)) {fs : Array Field} {fd : Field} (hu : P.underlying s = some (.struct fs)) (hfd : fs[f]? = some fd) {sz : Nat} (hi' : (P.info? fd.type).map (·.size) = some sz) (hsz : sz ≠ 0) (off2 : Nat) (ho2 : off + fd.offset = off2)
    (h : wpList P ops Q rest (a.put o.dst (.pointer (some ⟨b, off2, none⟩))) w) : wpList P ops Q (o :: rest) a w :=
  Step.p_val hg _ (by
    subst ho2
    unfold execOp
    simp only [ho, hx, Sem.run_bind, Step.run_field0 s b off f hu hfd hi' hsz, Result.andThen_ok, Sem.run_pure]) h
theorem p_load1 (ty : TypeId) (x : Operand) (ho : o.op = .load ty x) (b off : Nat) (hx : a.eval x = .pointer (some ⟨b, off, none⟩)) {d : TypeDesc} (v : Value) (hA : w.cell? ⟨b, off, none⟩ = some v) (hu : P.underlying ty = some d) (hd : Step.oneD d = true)
    (h : wpList P ops Q rest (a.put o.dst v) w) : wpList P ops Q (o :: rest) a w :=
  Step.p_val hg v (by
    unfold execOp
    simp only [ho, hx, Instr.loadAt, Instr.sureAddr, Sem.run_bind, Sem.run_pure, Result.andThen_ok, Step.run_load1 ty b off hu hd hA]) h
theorem p_loadrow (ty : TypeId) (x : Operand) (ho : o.op = .load ty x) (b : Nat) (hx : a.eval x = .pointer (some ⟨b, 0, none⟩))
    {t : TypeId} {cs : Array Value} {d : TypeDesc} (hA : w.heap[b]? = some (.cells cs t (0, 0))) (hu : P.underlying ty = some d) (hd : (match d with | .struct _ | .array _ _ => true | _ => false) = true)
    (hi : (P.info? ty).map (·.size) = some cs.size) (h : wpList P ops Q rest (a.put o.dst (.agg cs)) w) : wpList P ops Q (o :: rest) a w :=
  Step.p_val hg _ (by
    unfold execOp
    simp only [ho, hx, Instr.loadAt, Instr.sureAddr, Sem.run_bind, Sem.run_pure, Result.andThen_ok, run_loadVar_row w b t ty _ _ d hA hu hd hi]) h
/-- a struct out of the middle of a block -/
theorem p_loadmid (ty : TypeId) (x : Operand) (ho : o.op = .load ty x) (b off : Nat) (hx : a.eval x = .pointer (some ⟨b, off, none⟩))
    (cs : List Value) {d : TypeDesc} (hA : w.rangeAt b off cs) (hu : P.underlying ty = some d) (hd : d.isRow = true)
    (hi' : (P.info? ty).map (·.size) = some cs.length) (h : wpList P ops Q rest (a.put o.dst (.agg cs.toArray)) w) : wpList P ops Q (o :: rest) a w :=
  Step.p_wp hg (wp_load_mid ty x ho b off hx cs d hA hu hd hi' h)
/-- a new variable -/
theorem p_new (ty : TypeId) (ho : o.op = .alloc ty) {z : Value} (hz : (P.info? ty).bind (·.zero) = some z) (h : wpList P ops Q rest (a.put o.dst (.pointer (some ⟨w.heap.size, 0, none⟩))) (w.alloc (.cells z.cells ty))) : wpList P ops Q (o :: rest) a w := by
  cases hie : P.info? ty with
  | none => simp [hie] at hz
  | some ie =>
    simp only [hie, Option.bind_some] at hz
    refine Step.p_wp hg (Step.w_run _ _ (by
      unfold execOp
      have h0 : (zeroValue ty).run P w = .ok z w := by simp [zeroValue, typeInfo, hie, hz]
      simp [ho, Instr.alloc, newVar, newRow, go_sem, h0]) h)
end
end Go.Proofs.YtmifebcaifbmoaaGreatDoor.Tree
end

/- Tree2 -/
section
namespace Go.Proofs.YtmifebcaifbmoaaGreatDoor.Tree
open Go.RowKit Go.Lib
section
variable {P : Program} {Q : Exit → Act → World → Prop} {a : Act} {w : World} {o : Oper} {ops : Array Oper} {rest : List Oper}
/-- a row with cells laid anew -/
def patch (cur : Array Value) (k : Nat) (vs : List Value) : Array Value := (cur.toList.take k ++ vs ++ cur.toList.drop (k + vs.length)).toArray
theorem patch_size (cur : Array Value) (k : Nat) (vs : List Value) (h : k + vs.length ≤ cur.size) : (patch cur k vs).size = cur.size := by
  simp [patch]; omega
theorem run_storemid (t : TypeId) (w : World) (b off : Nat) (cs : Array Value) (hi : (P.info? t).map (·.size) = some cs.size) (h1 : ∀ v ∈ cs.toList, v.oneCell' = true) {T : TypeId} {cur : Array Value} (hb : w.heap[b]? = some (.cells cur T (0, 0))) (ho : off + cs.size ≤ cur.size) :
    (Instr.storeAt t (.pointer (some ⟨b, off, none⟩)) (.agg cs)).run P w = .ok () (w.setRow b (patch cur off cs.toList)) := by
  cases hie : P.info? t with
  | none => simp [hie] at hi
  | some ie =>
    simp only [hie, Option.map_some, Option.some.injEq] at hi
    have hs : (sizeOf t).run P w = .ok cs.size w := by simp [sizeOf, typeInfo, hie, hi]
    have hst := run_storeCells_at P b off T cs.toList 0 cur w hb (by simpa using ho) h1
    simp only [Nat.add_zero] at hst
    simp [Instr.storeAt, go_sem, storeVar, hs, Value.cells, hst, patch]
theorem p_storemid (hgd : o.guard = none) (t : TypeId) (x y : Operand) (ho : o.op = .store t x y) (b off : Nat) (hx : a.eval x = .pointer (some ⟨b, off, none⟩)) (cs : Array Value) (hy : a.eval y = .agg cs) (hi : (P.info? t).map (·.size) = some cs.size) (h1 : ∀ v ∈ cs.toList, v.oneCell' = true) {T : TypeId} {cur : Array Value} (hb : w.heap[b]? = some (.cells cur T (0, 0))) (hol : off + cs.size ≤ cur.size)
    (h : wpList P ops Q rest (a.put o.dst undef) (w.setRow b (patch cur off cs.toList))) : wpList P ops Q (o :: rest) a w :=
  wpList_plain hgd fun K hK => w_skip (by
    unfold execOp
    simp only [ho, hx, hy, Sem.run_bind, run_storemid t w b off cs hi h1 hb hol, Result.andThen_ok, Sem.run_pure]) (hK _ _ h)
end
end Go.Proofs.YtmifebcaifbmoaaGreatDoor.Tree
end

/- Seg -/
section
namespace Go.Proofs.YtmifebcaifbmoaaGreatDoor.Seg
open Go.RowKit Go.Lib Go.Proofs.YtmifebcaifbmoaaGreatDoor.Blk

/-- from place off on, n numbers -/
def Sg (cs : Array Value) (off : Nat) (k : IntKind) (n : Nat) (f : Nat → Int) : Prop := ∀ i, i < n → cs[off + i]? = some (.int k (f i))
theorem fold_size : ∀ (l : List Value) (n off : Nat) (cs : Array Value), ((l.zipIdx n).foldl (fun cs (p : Value × Nat) => cs.setIfInBounds (off + p.2) p.1) cs).size = cs.size
  | [], _, _, _ => rfl
  | v :: l, n, off, cs => by
    rw [List.zipIdx_cons, List.foldl_cons, fold_size l]
    simp
theorem fold_out : ∀ (l : List Value) (n off : Nat) (cs : Array Value) (k : Nat), k < off + n → ((l.zipIdx n).foldl (fun cs (p : Value × Nat) => cs.setIfInBounds (off + p.2) p.1) cs)[k]? = cs[k]?
  | [], _, _, _, _, _ => rfl
  | v :: l, n, off, cs, k, h => by
    rw [List.zipIdx_cons, List.foldl_cons, fold_out l (n + 1) off _ k (by omega), Array.getElem?_setIfInBounds_ne (by dsimp only; omega)]
theorem fold_get : ∀ (l : List Value) (n off : Nat) (cs : Array Value) (k : Nat), off + n ≤ k → k < off + n + l.length → k < cs.size →
    ((l.zipIdx n).foldl (fun cs (p : Value × Nat) => cs.setIfInBounds (off + p.2) p.1) cs)[k]? = l[k - off - n]?
  | [], _, _, _, k, h1, h2, _ => by simp at h2; omega
  | v :: l, n, off, cs, k, h1, h2, h3 => by
    rw [List.zipIdx_cons, List.foldl_cons]
    by_cases e : k = off + n
    · subst e
      rw [fold_out l (n + 1) off _ (off + n) (by omega)]
      simp [h3]
    · rw [fold_get l (n + 1) off _ k (by omega) (by simp at h2; omega) (by simpa using h3)]
      rw [show k - off - n = (k - off - (n + 1)) + 1 by omega, List.getElem?_cons_succ]
theorem patch_in (cur : Array Value) (k : Nat) (vs : List Value) (h : k + vs.length ≤ cur.size) (j : Nat) (hj : j < vs.length) : (Tree.patch cur k vs)[k + j]? = vs[j]? := by
  simp only [Tree.patch, List.getElem?_toArray, List.append_assoc]
  rw [List.getElem?_append_right (by simp; omega), List.getElem?_append_left (by simp; omega)]
  congr 1
  simp
  omega
theorem patch_out (cur : Array Value) (k : Nat) (vs : List Value) (h : k + vs.length ≤ cur.size) (j : Nat) (hj : j < k ∨ k + vs.length ≤ j) : (Tree.patch cur k vs)[j]? = cur[j]? := by
  simp only [Tree.patch, List.getElem?_toArray, List.append_assoc]
  rcases hj with hj | hj
  · rw [List.getElem?_append_left (by simp; omega), List.getElem?_take, if_pos hj, Array.getElem?_toList]
  · rw [List.getElem?_append_right (by simp; omega), List.getElem?_append_right (by simp; omega), List.getElem?_drop, ← Array.getElem?_toList]
    congr 1
    simp
    omega
theorem Sg.patched (cur : Array Value) (off : Nat) (k : IntKind) (n : Nat) (f : Nat → Int) (h : off + n ≤ cur.size) : Sg (Tree.patch cur off (arr k n f).toList) off k n f := fun i hi => by
  have hl : (arr k n f).toList.length = n := by rw [Array.length_toList, arr_size]
  rw [patch_in cur off _ (by rw [hl]; exact h) i (by rw [hl]; exact hi), Array.getElem?_toList, arr_get k n f i hi]
theorem Sg.kept {cur : Array Value} {off : Nat} {k : IntKind} {n : Nat} {f : Nat → Int} (h : Sg cur off k n f) {o2 : Nat} {vs : List Value} (hl : o2 + vs.length ≤ cur.size) (hd : off + n ≤ o2 ∨ o2 + vs.length ≤ off) : Sg (Tree.patch cur o2 vs) off k n f := fun i hi => by
  rw [patch_out cur o2 vs hl _ (by omega)]
  exact h i hi
theorem Sg.range {w : World} {b off : Nat} {cs : Array Value} {t : TypeId} {k : IntKind} {n : Nat} {f : Nat → Int} (h : w.heap[b]? = some (.cells cs t (0, 0))) (hs : Sg cs off k n f) : w.rangeAt b off (arr k n f).toList := fun j v hj => by
  have hl := (List.getElem?_eq_some_iff.1 hj).1
  rw [Array.length_toList, arr_size] at hl
  rw [cell_of_row w b (off + j) _ _ _ h, hs j hl, ← hj, Array.getElem?_toList, arr_get k n f j hl]
section
variable {P : Program} {ops : Array Oper} {Q : Exit → Act → World → Prop} {a : Act} {w : World} {o : Oper} {rest : List Oper}
/-- a struct literal with one field given, an array -/
theorem p_build1 (hg : Region.wanted o (yielded ops a.tmps) = true) (t : TypeId) (i : Nat) (x : Operand) (ho : o.op = .build t #[(i, x)]) (cs : Array Value) (hx : a.eval x = .agg cs) (z : Array Value) (hz : (P.info? t).bind (·.zero) = some (.agg z))
    {fs : Array Field} (hu : P.underlying t = some (.struct fs)) (places : List (Nat × Nat)) (hpl : fs.toList.mapM (fun f => (P.info? f.type).map fun i => (f.offset, i.size)) = some places) (off : Nat) (hp : places.toArray[i]? = some (off, cs.size)) (hle : off + cs.size ≤ z.size)
    (h : ∀ C : Array Value, C.size = z.size → (∀ j, j < cs.size → C[off + j]? = cs[j]?) → wpList P ops Q rest (a.put o.dst (.agg C)) w) : wpList P ops Q (o :: rest) a w := by
  have hl : (cs.zipIdx.foldl (fun cs (p : Value × Nat) => cs.setIfInBounds (off + p.2) p.1) z) = ((cs.toList.zipIdx 0).foldl (fun cs (p : Value × Nat) => cs.setIfInBounds (off + p.2) p.1) z) := by
    rw [← Array.foldl_toList, Array.toList_zipIdx]
  have hb : P.built t [(i, .agg cs)] = some (cs.zipIdx.foldl (fun cs (p : Value × Nat) => cs.setIfInBounds (off + p.2) p.1) z) := by
    unfold Program.built
    cases hie : P.info? t with
    | none => simp [hie] at hz
    | some ie =>
      simp only [hie, Option.bind_some] at hz
      rw [hu]
      have hcond : (decide ((Value.agg cs).cells.size ≠ cs.size) || decide (off + (Value.agg cs).cells.size > (Value.agg z).cells.size)) = false := by
        show (decide (cs.size ≠ cs.size) || decide (off + cs.size > z.size)) = false
        simp
        omega
      simp only [hz, hpl, Instr.fill, hp, hcond, Bool.false_eq_true, if_false]
      rfl
  refine Step.p_val hg (.agg (cs.zipIdx.foldl (fun cs (p : Value × Nat) => cs.setIfInBounds (off + p.2) p.1) z)) ?_ (h _ ?_ ?_)
  · unfold execOp
    rw [ho]
    simp only [List.map_toArray, List.map_cons, List.map_nil, hx, Sem.run_bind, run_build (P := P) w t #[(i, .agg cs)] _ hb, Result.andThen_ok, Sem.run_pure]
  · rw [hl, fold_size]
  · intro j hj
    rw [hl, fold_get cs.toList 0 off z (off + j) (by omega) (by simpa using hj) (by omega), ← Array.getElem?_toList]
    congr 1
    omega
/-- four numbers as a slice -/
theorem p_lit4 (hg : Region.wanted o (yielded ops a.tmps) = true) (t e : TypeId) (x0 x1 x2 x3 : Operand) (ho : o.op = .buildSlice t 4 #[(0, x0), (1, x1), (2, x2), (3, x3)]) (k : IntKind) (c0 c1 c2 c3 : Int) (e0 : a.eval x0 = .int k c0) (e1 : a.eval x1 = .int k c1) (e2 : a.eval x2 = .int k c2) (e3 : a.eval x3 = .int k c3)
    (hu : P.underlying t = some (.slice e)) {ie : TypeInfo} {z : Value} (hie : P.info? e = some ie) (hz : ie.zero = some z) (hs : ie.size = 1)
    (h : wpList P ops Q rest (a.put o.dst (.slice (some ⟨w.heap.size, 0, none⟩) 4 4)) (w.alloc (.cells #[.int k c0, .int k c1, .int k c2, .int k c3] e))) : wpList P ops Q (o :: rest) a w := by
  refine Step.p_wp hg (wp_buildSlice t e 4 _ ho _ ie z hu hie hz (by rw [hs]; decide) (by rw [hs]; decide) ?_ h)
  simp only [List.map_toArray, List.map_cons, List.map_nil, e0, e1, e2, e3, hs]
  have := Great.fill_whole (s := 1) (by decide) [.int k c0, .int k c1, .int k c2, .int k c3] ((Array.range (4 * 1)).map (z.cells[· % z.cells.size]!)) (fun v hv => by
    simp only [List.mem_cons, List.not_mem_nil, or_false] at hv
    rcases hv with rfl | rfl | rfl | rfl <;> rfl) (by simp)
  simpa [Value.cells] using this
/-- a value of whatever cells is boxed -/
theorem p_boxA (hg : Region.wanted o (yielded ops a.tmps) = true) (ty : TypeId) (x : Operand) (ho : o.op = .box ty x) (C : Array Value) (hx : a.eval x = .agg C)
    (h : wpList P ops Q rest (a.put o.dst (.pointer (some ⟨w.heap.size, 0, none⟩))) (w.alloc (.cells C ty))) : wpList P ops Q (o :: rest) a w := by
  refine Step.p_wp hg (Step.w_run (.pointer (some ⟨w.heap.size, 0, none⟩)) (w.alloc (.cells C ty)) (by
    unfold execOp
    rw [ho]
    simp only [hx]
    simp [Instr.box, newVar, newRow, go_sem, Value.cells]) h)
end
end Go.Proofs.YtmifebcaifbmoaaGreatDoor.Seg
end

/- Rj5 -/
section
namespace Go.Proofs.YtmifebcaifbmoaaGreatDoor.Rj
open Go.RowKit Go.Lib Go.Proofs.YtmifebcaifbmoaaGreatDoor.Blk Go.Proofs.YtmifebcaifbmoaaGreatDoor.Aes Go.Proofs.YtmifebcaifbmoaaGreatDoor.Seg

/-- the tables, as they lie -/
structure TabC (C : Array Value) : Prop where
  size : C.size = 2560
  s : Sg C 0 .u8 256 fun i => (S i : Nat)
  u : Sg C 256 .u8 256 fun i => (U i : Nat)
  e : Sg C 512 .u32 1024 fun x => (tabW S mE x : Nat)
  d : Sg C 1536 .u32 1024 fun x => (tabW U mD x : Nat)
def TabAt (w : World) (b : Nat) : Prop := ∃ C, w.heap[b]? = some (.cells C 191 (0, 0)) ∧ TabC C
theorem TabAt.below {w w' : World} {b : Nat} (h : TabAt w b) (hb : Below w.heap.size w w') : TabAt w' b := by
  obtain ⟨C, h1, h2⟩ := h
  exact ⟨C, (hb.block b (Array.getElem?_eq_some_iff.1 h1).1).trans h1, h2⟩
theorem info_of {t : TypeId} {z : Value} {s b : Nat} (h : (Tryz.prog.info? t).map (fun i => (i.zero, i.size, i.bytes)) = some (some z, s, b)) : ∃ i, Tryz.prog.info? t = some i ∧ i.zero = some z ∧ i.size = s ∧ i.bytes = b := by
  cases hi : Tryz.prog.info? t with
  | none => simp [hi] at h
  | some I =>
    simp only [hi, Option.map_some, Option.some.injEq, Prod.mk.injEq] at h
    exact ⟨I, rfl, h.1, h.2.1, h.2.2⟩
theorem S_b : Byt S 256 := S_lt
theorem arr_toList (k : IntKind) (n : Nat) (f : Nat → Int) : (arr k n f).toList.length = n := by rw [Array.length_toList, arr_size]
theorem arr_one' (k : IntKind) (n : Nat) (f : Nat → Int) : ∀ v ∈ (arr k n f).toList, v.oneCell' = true := by
  have := arr_one k n f
  rw [← Array.all_toList, List.all_eq_true] at this
  exact this
theorem mE_b : Byt mE 4 := fun j hj => by rcases (by omega : j = 0 ∨ j = 1 ∨ j = 2 ∨ j = 3) with rfl | rfl | rfl | rfl <;> decide
theorem mD_b : Byt mD 4 := fun j hj => by rcases (by omega : j = 0 ∨ j = 1 ∨ j = 2 ∨ j = 3) with rfl | rfl | rfl | rfl <;> decide
set_option maxRecDepth 100000 in
theorem zT_cells : (match (Tryz.prog.info? 191).bind (·.zero) with | some (.agg z) => some z.size | _ => none) = some 2560 := by kernel_rfl
theorem zT_ex : ∃ z : Array Value, (Tryz.prog.info? 191).bind (·.zero) = some (.agg z) ∧ z.size = 2560 := by
  have h := zT_cells
  split at h
  · rename_i z hz
    exact ⟨z, hz, Option.some.inj h⟩
  · cases h

set_option maxRecDepth 100000 in
set_option maxHeartbeats 4000000 in
theorem made_any (w : World) : Calls Tryz.prog 92 #[] w fun e w' => ∃ b, e = .returned (.pointer (some ⟨b, 0, none⟩)) ∧ w.heap.size ≤ b ∧ TabAt w' b ∧ Below w.heap.size w w' := by
  obtain ⟨zT, zTT, zT_size⟩ := zT_ex
  obtain ⟨i_b, a1, a2, a3, a4⟩ := info_of (t := 5) (z := .int .u8 0) (s := 1) (b := 1) (by kernel_rfl)
  go_enter Tryz.func92, Tryz.ntmps92
  go_upto_region 1 with fail
  refine wp_region_lit ?_
  refine Step.p_wp rfl (Step.w_callx 145 [] _ rfl Tryz.func145 (by kernel_rfl) rfl [] rfl (substitutions_any w) ?_)
  rintro e w1 ⟨rfl, hb1⟩
  refine ⟨_, rfl, ?_⟩
  simp only [Act.put, sA9, sB9, sC9]
  refine p_build1 rfl 191 0 _ rfl (arr .u8 256 fun i => ((S i : Nat) : Int)) rfl zT zTT Tryz.underlying191 [(0, 256), (256, 256), (512, 1024), (1536, 1024)] (by kernel_rfl) 0 (by rw [arr_size]; rfl) (by rw [arr_size, zT_size]; decide) ?_
  intro C hC1 hC2
  simp only [Act.put, sA9, sB9, sC9]
  have hsz : C.size = 2560 := hC1.trans zT_size
  have hS : Sg C 0 .u8 256 fun i => (S i : Nat) := fun i hi => by rw [hC2 i (by rw [arr_size]; exact hi), arr_get _ _ _ i hi]
  clear hC1 hC2
  refine p_boxA rfl 191 _ rfl C rfl ?_
  simp only [Act.put, sA9, sB9, sC9]
  refine Step.p_assign rfl _ rfl (.pointer (some ⟨w1.heap.size, 0, none⟩)) rfl ?_
  simp only [Act.put, sA9, sB9, sC9]
  refine wpList_nil ?_
  have o2 := heap_alloc_new w1 (.cells C 191)
  have b2 := hb1.trans (((Below.refl w1.heap.size w1).alloc (Nat.le_refl _) (.cells C 191)).mono hb1.size)
  have ge := hb1.size
  generalize w1.alloc (.cells C 191) = w2 at *
  generalize w1.heap.size = b at *
  have O2 := Lib.hid o2
  have B2 := Lib.hid b2
  clear o2 b2 hb1
  go_upto_region 2 with fail
  refine wp_region_lit ?_
  refine Step.p_move rfl _ rfl (.pointer (some ⟨b, 0, none⟩)) rfl ?_
  simp only [Act.put, sA9, sB9, sC9]
  refine Step.p_move rfl _ rfl (.pointer (some ⟨b, 0, none⟩)) rfl ?_
  simp only [Act.put, sA9, sB9, sC9]
  refine Step.p_val rfl (.pointer (some ⟨b, 0, none⟩)) (by unfold execOp; go_simp) ?_
  simp only [Act.put, sA9, sB9, sC9]
  refine Tree.p_field rfl _ _ _ rfl (b) (0) rfl Tryz.underlying191 rfl (sz := 256) (by kernel_rfl) (by decide) (0) rfl ?_
  simp only [Act.put, sA9, sB9, sC9]
  refine Tree.p_loadmid rfl _ _ rfl b 0 rfl (arr .u8 256 fun i => ((S i : Nat) : Int)).toList (Sg.range O2.out hS) Tryz.underlying175 rfl (by rw [arr_toList]; exact info256) ?_
  simp only [Act.put, sA9, sB9, sC9, Array.toArray_toList]
  refine Step.p_wp rfl (Step.w_callx 146 [.tmp 9] _ rfl Tryz.func146 (by kernel_rfl) rfl [.agg (arr .u8 256 fun i => ((S i : Nat) : Int))] rfl (inverse_any w2) ?_)
  rintro e w3 ⟨rfl, hb3⟩
  refine ⟨_, rfl, ?_⟩
  simp only [Act.put, sA9, sB9, sC9]
  have O3 := Lib.hid ((hb3.block b (Array.getElem?_eq_some_iff.1 O2.out).1).trans O2.out)
  have B3 := Lib.hid (B2.out.trans (hb3.mono B2.out.size))
  clear hb3
  refine Step.p_val rfl (.pointer (some ⟨b, 0, none⟩)) (by unfold execOp; go_simp) ?_
  simp only [Act.put, sA9, sB9, sC9]
  refine Tree.p_field rfl _ _ _ rfl (b) (0) rfl Tryz.underlying191 rfl (sz := 256) (by kernel_rfl) (by decide) (256) rfl ?_
  simp only [Act.put, sA9, sB9, sC9]
  refine Tree.p_storemid rfl 175 _ _ rfl b 256 rfl (arr .u8 256 fun i => ((U i : Nat) : Int)) rfl (by rw [arr_size]; exact info256) (arr_one' _ _ _) O3.out (by rw [arr_size, hsz]; decide) ?_
  refine wpList_nil ?_
  simp only [Act.put]
  have oN := setRow_heap w3 b C (Tree.patch C 256 (arr .u8 256 fun i => ((U i : Nat) : Int)).toList) _ _ O3.out
  have bN : Below w.heap.size w (w3.setRow b (Tree.patch C 256 (arr .u8 256 fun i => ((U i : Nat) : Int)).toList)) := B3.out.grown (show w3.grownBy (w3.setRow b (Tree.patch C 256 (arr .u8 256 fun i => ((U i : Nat) : Int)).toList)) (some b) from ⟨rfl, rfl, rfl, by simp, fun k hk hne => setRow_other _ _ _ _ (fun e => hne (by rw [e]))⟩) B3.out.size (fun k hk => by cases hk; exact ge)
  have hlN : 256 + (arr .u8 256 fun i => ((U i : Nat) : Int)).toList.length ≤ C.size := by rw [arr_toList, hsz]; decide
  have szN := Tree.patch_size C 256 (arr .u8 256 fun i => ((U i : Nat) : Int)).toList hlN
  have hU : Sg (Tree.patch C 256 (arr .u8 256 fun i => ((U i : Nat) : Int)).toList) 256 .u8 256 (fun i => (U i : Nat)) := Sg.patched C 256 .u8 256 _ (by rw [hsz]; decide)
  have hSN := Sg.kept (vs := (arr .u8 256 fun i => ((U i : Nat) : Int)).toList) hS hlN (by rw [arr_toList]; decide)
  clear hS
  generalize Tree.patch C 256 (arr .u8 256 fun i => ((U i : Nat) : Int)).toList = C4 at *
  generalize w3.setRow b C4 = w4 at *
  have O4 := Lib.hid oN
  have B4 := Lib.hid bN
  replace hsz : C4.size = 2560 := szN.trans hsz
  clear oN bN hlN szN
  have hS := hSN
  clear hSN
  go_upto_region 3 with fail
  refine wp_region_lit ?_
  refine Step.p_move rfl _ rfl (.pointer (some ⟨b, 0, none⟩)) rfl ?_
  simp only [Act.put, sA9, sB9, sC9]
  refine Step.p_move rfl _ rfl (.pointer (some ⟨b, 0, none⟩)) rfl ?_
  simp only [Act.put, sA9, sB9, sC9]
  refine Step.p_val rfl (.pointer (some ⟨b, 0, none⟩)) (by unfold execOp; go_simp) ?_
  simp only [Act.put, sA9, sB9, sC9]
  refine Tree.p_field rfl _ _ _ rfl (b) (0) rfl Tryz.underlying191 rfl (sz := 256) (by kernel_rfl) (by decide) (0) rfl ?_
  simp only [Act.put, sA9, sB9, sC9]
  refine Tree.p_loadmid rfl _ _ rfl b 0 rfl (arr .u8 256 fun i => ((S i : Nat) : Int)).toList (Sg.range O4.out hS) Tryz.underlying175 rfl (by rw [arr_toList]; exact info256) ?_
  simp only [Act.put, sA9, sB9, sC9, Array.toArray_toList]
  refine p_lit4 rfl 22 5 _ _ _ _ rfl .u8 2 1 1 3 rfl rfl rfl rfl Tryz.underlying22 a1 a2 a3 ?_
  simp only [Act.put, sA9, sB9, sC9]
  have oc := heap_alloc_new w4 (.cells #[.int .u8 2, .int .u8 1, .int .u8 1, .int .u8 3] 5)
  have bc := (Below.refl w4.heap.size w4).alloc (Nat.le_refl _) (.cells #[.int .u8 2, .int .u8 1, .int .u8 1, .int .u8 3] 5)
  skip
  generalize w4.alloc (.cells #[.int .u8 2, .int .u8 1, .int .u8 1, .int .u8 3] 5) = w5 at *
  have O4a := Lib.hid ((bc.block b (Array.getElem?_eq_some_iff.1 O4.out).1).trans O4.out)
  have B4a := Lib.hid (B4.out.trans (bc.mono B4.out.size))
  refine Step.p_wp rfl (Step.w_callx 147 [.tmp 17, .tmp 18] _ rfl Tryz.func147 (by kernel_rfl) rfl [.agg (arr .u8 256 fun i => ((S i : Nat) : Int)), .slice (some ⟨w4.heap.size, 0, none⟩) 4 4] rfl (products_any S mE S_b mE_b w4.heap.size 0 4 w5 (fun d hd => by rw [cell_of_row _ _ (0 + d) _ _ _ oc]; rcases (by omega : d = 0 ∨ d = 1 ∨ d = 2 ∨ d = 3) with rfl | rfl | rfl | rfl <;> rfl)) ?_)
  rintro e w6 ⟨rfl, hb⟩
  refine ⟨_, rfl, ?_⟩
  simp only [Act.put, sA9, sB9, sC9]
  have O4b := Lib.hid ((hb.block b (Array.getElem?_eq_some_iff.1 O4a.out).1).trans O4a.out)
  have B4b := Lib.hid (B4a.out.trans (hb.mono B4a.out.size))
  clear hb oc bc
  refine Step.p_val rfl (.pointer (some ⟨b, 0, none⟩)) (by unfold execOp; go_simp) ?_
  simp only [Act.put, sA9, sB9, sC9]
  refine Tree.p_field rfl _ _ _ rfl (b) (0) rfl Tryz.underlying191 rfl (sz := 1024) (by kernel_rfl) (by decide) (512) rfl ?_
  simp only [Act.put, sA9, sB9, sC9]
  refine Tree.p_storemid rfl 189 _ _ rfl b 512 rfl (arr .u32 1024 fun x => ((tabW S mE x : Nat) : Int)) rfl (by rw [arr_size]; exact info1024) (arr_one' _ _ _) O4b.out (by rw [arr_size, hsz]; decide) ?_
  refine wpList_nil ?_
  simp only [Act.put]
  have oN := setRow_heap w6 b C4 (Tree.patch C4 512 (arr .u32 1024 fun x => ((tabW S mE x : Nat) : Int)).toList) _ _ O4b.out
  have bN : Below w.heap.size w (w6.setRow b (Tree.patch C4 512 (arr .u32 1024 fun x => ((tabW S mE x : Nat) : Int)).toList)) := B4b.out.grown (show w6.grownBy (w6.setRow b (Tree.patch C4 512 (arr .u32 1024 fun x => ((tabW S mE x : Nat) : Int)).toList)) (some b) from ⟨rfl, rfl, rfl, by simp, fun k hk hne => setRow_other _ _ _ _ (fun e => hne (by rw [e]))⟩) B4b.out.size (fun k hk => by cases hk; exact ge)
  have hlN : 512 + (arr .u32 1024 fun x => ((tabW S mE x : Nat) : Int)).toList.length ≤ C4.size := by rw [arr_toList, hsz]; decide
  have szN := Tree.patch_size C4 512 (arr .u32 1024 fun x => ((tabW S mE x : Nat) : Int)).toList hlN
  have hE : Sg (Tree.patch C4 512 (arr .u32 1024 fun x => ((tabW S mE x : Nat) : Int)).toList) 512 .u32 1024 (fun x => (tabW S mE x : Nat)) := Sg.patched C4 512 .u32 1024 _ (by rw [hsz]; decide)
  have hSN := Sg.kept (vs := (arr .u32 1024 fun x => ((tabW S mE x : Nat) : Int)).toList) hS hlN (by rw [arr_toList]; decide)
  clear hS
  have hUN := Sg.kept (vs := (arr .u32 1024 fun x => ((tabW S mE x : Nat) : Int)).toList) hU hlN (by rw [arr_toList]; decide)
  clear hU
  generalize Tree.patch C4 512 (arr .u32 1024 fun x => ((tabW S mE x : Nat) : Int)).toList = C6 at *
  generalize w6.setRow b C6 = w7 at *
  have O6 := Lib.hid oN
  have B6 := Lib.hid bN
  replace hsz : C6.size = 2560 := szN.trans hsz
  clear oN bN hlN szN
  have hS := hSN
  clear hSN
  have hU := hUN
  clear hUN
  go_upto_region 4 with fail
  refine wp_region_lit ?_
  refine Step.p_move rfl _ rfl (.pointer (some ⟨b, 0, none⟩)) rfl ?_
  simp only [Act.put, sA9, sB9, sC9]
  refine Step.p_move rfl _ rfl (.pointer (some ⟨b, 0, none⟩)) rfl ?_
  simp only [Act.put, sA9, sB9, sC9]
  refine Step.p_val rfl (.pointer (some ⟨b, 0, none⟩)) (by unfold execOp; go_simp) ?_
  simp only [Act.put, sA9, sB9, sC9]
  refine Tree.p_field rfl _ _ _ rfl (b) (0) rfl Tryz.underlying191 rfl (sz := 256) (by kernel_rfl) (by decide) (256) rfl ?_
  simp only [Act.put, sA9, sB9, sC9]
  refine Tree.p_loadmid rfl _ _ rfl b 256 rfl (arr .u8 256 fun i => ((U i : Nat) : Int)).toList (Sg.range O6.out hU) Tryz.underlying175 rfl (by rw [arr_toList]; exact info256) ?_
  simp only [Act.put, sA9, sB9, sC9, Array.toArray_toList]
  refine p_lit4 rfl 22 5 _ _ _ _ rfl .u8 14 9 13 11 rfl rfl rfl rfl Tryz.underlying22 a1 a2 a3 ?_
  simp only [Act.put, sA9, sB9, sC9]
  have oc := heap_alloc_new w7 (.cells #[.int .u8 14, .int .u8 9, .int .u8 13, .int .u8 11] 5)
  have bc := (Below.refl w7.heap.size w7).alloc (Nat.le_refl _) (.cells #[.int .u8 14, .int .u8 9, .int .u8 13, .int .u8 11] 5)
  skip
  generalize w7.alloc (.cells #[.int .u8 14, .int .u8 9, .int .u8 13, .int .u8 11] 5) = w8 at *
  have O6a := Lib.hid ((bc.block b (Array.getElem?_eq_some_iff.1 O6.out).1).trans O6.out)
  have B6a := Lib.hid (B6.out.trans (bc.mono B6.out.size))
  refine Step.p_wp rfl (Step.w_callx 147 [.tmp 26, .tmp 27] _ rfl Tryz.func147 (by kernel_rfl) rfl [.agg (arr .u8 256 fun i => ((U i : Nat) : Int)), .slice (some ⟨w7.heap.size, 0, none⟩) 4 4] rfl (products_any U mD U_byt mD_b w7.heap.size 0 4 w8 (fun d hd => by rw [cell_of_row _ _ (0 + d) _ _ _ oc]; rcases (by omega : d = 0 ∨ d = 1 ∨ d = 2 ∨ d = 3) with rfl | rfl | rfl | rfl <;> rfl)) ?_)
  rintro e w9 ⟨rfl, hb⟩
  refine ⟨_, rfl, ?_⟩
  simp only [Act.put, sA9, sB9, sC9]
  have O6b := Lib.hid ((hb.block b (Array.getElem?_eq_some_iff.1 O6a.out).1).trans O6a.out)
  have B6b := Lib.hid (B6a.out.trans (hb.mono B6a.out.size))
  clear hb oc bc
  refine Step.p_val rfl (.pointer (some ⟨b, 0, none⟩)) (by unfold execOp; go_simp) ?_
  simp only [Act.put, sA9, sB9, sC9]
  refine Tree.p_field rfl _ _ _ rfl (b) (0) rfl Tryz.underlying191 rfl (sz := 1024) (by kernel_rfl) (by decide) (1536) rfl ?_
  simp only [Act.put, sA9, sB9, sC9]
  refine Tree.p_storemid rfl 189 _ _ rfl b 1536 rfl (arr .u32 1024 fun x => ((tabW U mD x : Nat) : Int)) rfl (by rw [arr_size]; exact info1024) (arr_one' _ _ _) O6b.out (by rw [arr_size, hsz]; decide) ?_
  refine wpList_nil ?_
  simp only [Act.put]
  have oN := setRow_heap w9 b C6 (Tree.patch C6 1536 (arr .u32 1024 fun x => ((tabW U mD x : Nat) : Int)).toList) _ _ O6b.out
  have bN : Below w.heap.size w (w9.setRow b (Tree.patch C6 1536 (arr .u32 1024 fun x => ((tabW U mD x : Nat) : Int)).toList)) := B6b.out.grown (show w9.grownBy (w9.setRow b (Tree.patch C6 1536 (arr .u32 1024 fun x => ((tabW U mD x : Nat) : Int)).toList)) (some b) from ⟨rfl, rfl, rfl, by simp, fun k hk hne => setRow_other _ _ _ _ (fun e => hne (by rw [e]))⟩) B6b.out.size (fun k hk => by cases hk; exact ge)
  have hlN : 1536 + (arr .u32 1024 fun x => ((tabW U mD x : Nat) : Int)).toList.length ≤ C6.size := by rw [arr_toList, hsz]; decide
  have szN := Tree.patch_size C6 1536 (arr .u32 1024 fun x => ((tabW U mD x : Nat) : Int)).toList hlN
  have hD : Sg (Tree.patch C6 1536 (arr .u32 1024 fun x => ((tabW U mD x : Nat) : Int)).toList) 1536 .u32 1024 (fun x => (tabW U mD x : Nat)) := Sg.patched C6 1536 .u32 1024 _ (by rw [hsz]; decide)
  have hSN := Sg.kept (vs := (arr .u32 1024 fun x => ((tabW U mD x : Nat) : Int)).toList) hS hlN (by rw [arr_toList]; decide)
  clear hS
  have hUN := Sg.kept (vs := (arr .u32 1024 fun x => ((tabW U mD x : Nat) : Int)).toList) hU hlN (by rw [arr_toList]; decide)
  clear hU
  have hEN := Sg.kept (vs := (arr .u32 1024 fun x => ((tabW U mD x : Nat) : Int)).toList) hE hlN (by rw [arr_toList]; decide)
  clear hE
  generalize Tree.patch C6 1536 (arr .u32 1024 fun x => ((tabW U mD x : Nat) : Int)).toList = C9 at *
  generalize w9.setRow b C9 = wT at *
  have O9 := Lib.hid oN
  have B9 := Lib.hid bN
  replace hsz : C9.size = 2560 := szN.trans hsz
  clear oN bN hlN szN
  have hS := hSN
  clear hSN
  have hU := hUN
  clear hUN
  have hE := hEN
  clear hEN
  go_wp2
  go_ret
  exact ⟨b, rfl, ge, ⟨C9, O9.out, hsz, hS, hU, hE, hD⟩, B9.out⟩
end Go.Proofs.YtmifebcaifbmoaaGreatDoor.Rj
end
