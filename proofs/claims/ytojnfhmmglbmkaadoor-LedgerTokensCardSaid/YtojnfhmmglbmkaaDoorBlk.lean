/- Arrays of numbers in memory: a block known whole by a function of the place. General lemmas. -/
import Derived.WalkKit
import Derived.ProofKit
import Derived.Outline
import Derived.Below
import Derived.IntWalk
import Derived.Lib.Hide
import Derived.Deep.QuietTactic
import Derived.BigQuiet
import Derived.BigRegion
import Derived.RegionTactic
import Derived.WalkSpells
import Derived.WalkSmall
import Derived.Laws.Rows
import Derived.Laws.Tables
import Derived.Laws.NewBlocks
import Derived.Laws.BitsLemmas
import Derived.Laws.Bits64
import Derived.Deep.MidRow
import Derived.Deep.RegionHeld3
namespace Go.Proofs.YtojnfhmmglbmkaaDoor.Blk
open Go.RowKit Go.Lib

/-- the cells of an array of n numbers -/
def arr (k : IntKind) (n : Nat) (f : Nat → Int) : Array Value := ((List.range n).map fun i => Value.int k (f i)).toArray
theorem arr_size (k : IntKind) (n : Nat) (f : Nat → Int) : (arr k n f).size = n := by simp [arr]
theorem arr_get (k : IntKind) (n : Nat) (f : Nat → Int) (i : Nat) (h : i < n) : (arr k n f)[i]? = some (.int k (f i)) := by simp [arr, h]
theorem arr_one (k : IntKind) (n : Nat) (f : Nat → Int) : (arr k n f).all (·.oneCell') = true := by
  rw [Array.all_eq_true_iff_forall_mem]
  intro x hx
  simp only [arr, List.mem_toArray, List.mem_map] at hx
  obtain ⟨_, _, rfl⟩ := hx
  rfl
def upd (f : Nat → Int) (i : Nat) (v : Int) : Nat → Int := fun j => if j = i then v else f j
theorem arr_set (k : IntKind) (n : Nat) (f : Nat → Int) (i : Nat) (v : Int) : (arr k n f).setIfInBounds i (.int k v) = arr k n (upd f i v) := by
  apply Array.ext_getElem?
  intro j
  rw [Array.getElem?_setIfInBounds]
  simp only [arr_size]
  by_cases h : j < n
  · rw [arr_get _ _ _ _ h, arr_get _ _ _ _ h]
    by_cases e : i = j
    · subst e; simp [upd, h]
    · rw [if_neg e]
      have : ¬ j = i := fun h' => e h'.symm
      simp [upd, this]
  · have h1 : (arr k n f)[j]? = none := Array.getElem?_eq_none (by rw [arr_size]; omega)
    have h2 : (arr k n (upd f i v))[j]? = none := Array.getElem?_eq_none (by rw [arr_size]; omega)
    by_cases e : i = j
    · subst e; simp [h, h2]
    · simp [e, h1, h2]
theorem arr_congr {k : IntKind} {n : Nat} {f g : Nat → Int} (h : ∀ i, i < n → f i = g i) : arr k n f = arr k n g := by
  unfold arr
  congr 1
  apply List.map_congr_left
  intro i hi
  rw [h i (by simpa using hi)]

/-- block b holds just the numbers f -/
def Arr (w : World) (b : Nat) (k : IntKind) (n : Nat) (t : TypeId) (f : Nat → Int) : Prop := w.heap[b]? = some (.cells (arr k n f) t (0, 0))
section
variable {w : World} {b : Nat} {k : IntKind} {n : Nat} {t : TypeId} {f : Nat → Int}
theorem Arr.cell (h : Arr w b k n t f) {i : Nat} (hi : i < n) : w.cell? ⟨b, i, none⟩ = some (.int k (f i)) := by
  rw [cell_of_row w b i _ _ _ h, arr_get _ _ _ _ hi]
theorem Arr.free (h : Arr w b k n t f) (i : Nat) : w.frozen? ⟨b, i, none⟩ = false := frozen_of_row w b i _ _ h
theorem Arr.lt (h : Arr w b k n t f) : b < w.heap.size := by
  rcases Nat.lt_or_ge b w.heap.size with h' | h'
  · exact h'
  · rw [Arr, Array.getElem?_eq_none h'] at h; cases h
theorem Arr.store (h : Arr w b k n t f) (i : Nat) (v : Int) : Arr (w.setCell ⟨b, i, none⟩ (.int k v)) b k n t (upd f i v) := by
  rw [Arr, heap_setCell_same _ _ _ _ _ _ h, arr_set]
theorem Arr.other (h : Arr w b k n t f) {a : Addr} (hb : b ≠ a.block) (v : Value) : Arr (w.setCell a v) b k n t f := by
  rw [Arr, heap_setCell_other _ _ _ _ hb]; exact h
theorem Arr.alloc (h : Arr w b k n t f) (o : Obj) : Arr (w.alloc o) b k n t f := by
  rw [Arr, Below.heap_alloc _ _ _ h.lt]; exact h
theorem Arr.new (w : World) (k : IntKind) (n : Nat) (t : TypeId) (f : Nat → Int) : Arr (w.alloc (.cells (arr k n f) t)) w.heap.size k n t f := by
  show (w.heap.push _)[w.heap.size]? = _
  simp
theorem Arr.drewN (h : Arr w b k n t f) (m : Nat) : Arr (w.drewN m) b k n t f := h
theorem Arr.drew (h : Arr w b k n t f) : Arr w.drew b k n t f := h
theorem Arr.below {B : Nat} {w' : World} (h : Arr w b k n t f) (hb : Below B w w') (hlt : b < B) : Arr w' b k n t f := by
  rw [Arr, hb.block b hlt]; exact h
theorem Arr.congr (h : Arr w b k n t f) {g : Nat → Int} (e : ∀ i, i < n → f i = g i) : Arr w b k n t g := by
  rw [Arr, ← arr_congr e]; exact h
end

/-- the value of an array -/
abbrev A16 (f : Nat → Int) : Value := .agg (arr .u8 16 f)

section
variable {P : Program} {ops : Array Oper} {rest : List Oper} {o : Oper} {a : Act} {w : World} {Q : Exit → Act → World → Prop}

/-- A whole array is read. -/
theorem wpList_load_arr (hgd : o.guard = none) (ty : TypeId) (x : Operand) (ho : o.op = .load ty x) (b : Nat) (hx : a.eval x = .pointer (some ⟨b, 0, none⟩))
    {k : IntKind} {n : Nat} {t : TypeId} {f : Nat → Int} {d : TypeDesc} (hA : Arr w b k n t f) (hu : P.underlying ty = some d) (hd : (match d with | .struct _ | .array _ _ => true | _ => false) = true)
    (hi : (P.info? ty).map (·.size) = some n) (h : wpList P ops Q rest (a.put o.dst (.agg (arr k n f))) w) : wpList P ops Q (o :: rest) a w :=
  wpList_load_row hgd ty x ho b hx t _ _ d hA hu hd (by rw [arr_size]; exact hi) h

/-- A whole array is written over a block. -/
theorem wpList_store_arr (hgd : o.guard = none) (ty : TypeId) (x y : Operand) (ho : o.op = .store ty x y) (b : Nat) {k : IntKind} {n : Nat} {f : Nat → Int} (hx : a.eval x = .pointer (some ⟨b, 0, none⟩)) (hy : a.eval y = .agg (arr k n f))
    {t : TypeId} {g : Nat → Int} (hA : Arr w b k n t g) (hi : (P.info? ty).map (·.size) = some n)
    (h : ∀ w', Arr w' b k n t f → w.grownBy w' (some b) → w'.heap.size = w.heap.size → wpList P ops Q rest (a.put o.dst undef) w') : wpList P ops Q (o :: rest) a w := by
  refine wpList_store_row hgd ty x y ho b (arr k n f) hx hy t (arr k n g) hA (by rw [arr_size]; exact hi) (by rw [arr_size, arr_size]) (arr_one _ _ _) ?_
  refine h _ (setRow_heap w b _ _ t _ hA) ⟨rfl, rfl, rfl, by simp, fun c _ hc => setRow_other w b c _ (fun e => hc (by rw [e]))⟩ (by simp)

theorem ret_arr {fn : Func} {p : Tmp} {ty : TypeId} {R : Ending → World → Prop} {b : Nat} {k : IntKind} {n : Nat} {t : TypeId} {f : Nat → Int} {d : TypeDesc} (hr : fn.results = #[.cell p ty])
    (hp : a.tmps.getD p undef = .pointer (some ⟨b, 0, none⟩)) (hA : Arr w b k n t f) (hu : P.underlying ty = some d) (hd : (match d with | .struct _ | .array _ _ => true | _ => false) = true)
    (hi : (P.info? ty).map (·.size) = some n) (hdf : a.defers = []) (h : R (.returned (.agg (arr k n f))) w) : bodyPost P fn R .ret a w :=
  bodyPost_ret (v := .agg (arr k n f)) (results_cell_row hr _ _ _ _ _ _ _ hp hA hu hd (by rw [arr_size]; exact hi)) hdf h
end

theorem Arr.grown {w w' : World} {b c : Nat} {k : IntKind} {n : Nat} {t : TypeId} {f : Nat → Int} (h : Arr w c k n t f) (hg : w.grownBy w' (some b)) (hne : c ≠ b) : Arr w' c k n t f := by
  rw [Arr, hg.block c h.lt (fun e => hne (Option.some.inj e))]; exact h

theorem gb_refl (w : World) (b : Option Nat) : w.grownBy w b := ⟨rfl, rfl, rfl, Nat.le_refl _, fun _ _ _ => rfl⟩
theorem gb_trans {a w w' : World} {b : Option Nat} (h : a.grownBy w b) (k : w.grownBy w' b) : a.grownBy w' b :=
  ⟨k.os.trans h.os, k.tape.trans h.tape, k.output.trans h.output, Nat.le_trans h.size k.size, fun i hi hne => (k.block i (Nat.lt_of_lt_of_le hi h.size) hne).trans (h.block i hi hne)⟩
theorem gb_setCell {a w : World} {b : Nat} (h : a.grownBy w (some b)) (i : Nat) (v : Value) : a.grownBy (w.setCell ⟨b, i, none⟩ v) (some b) :=
  gb_trans h ⟨rfl, rfl, rfl, by simp, fun c _ hne => Below.heap_setCell _ _ _ _ (fun e => hne (by rw [e]))⟩
theorem gb_drew {a w : World} {b : Option Nat} (h : a.grownBy w b) : a.grownBy w.drew b := ⟨h.os, h.tape, h.output, h.size, h.block⟩
theorem gb_drewN {a w : World} {b : Option Nat} (h : a.grownBy w b) (n : Nat) : a.grownBy (w.drewN n) b := ⟨h.os, h.tape, h.output, h.size, h.block⟩

theorem run_loadAt_arr {P : Program} {w : World} {b : Nat} (ty : TypeId) {k : IntKind} {n : Nat} {t : TypeId} {f : Nat → Int} {d : TypeDesc} (hA : Arr w b k n t f) (hu : P.underlying ty = some d) (hd : (match d with | .struct _ | .array _ _ => true | _ => false) = true)
    (hi : (P.info? ty).map (·.size) = some n) : (Instr.loadAt ty (.pointer (some ⟨b, 0, none⟩))).run P w = .ok (.agg (arr k n f)) w := by
  simp only [Instr.loadAt, Instr.sureAddr, Sem.run_bind, Sem.run_pure, Result.andThen_ok, run_loadVar_row w b t ty _ _ d hA hu hd (by rw [arr_size]; exact hi)]

end Go.Proofs.YtojnfhmmglbmkaaDoor.Blk
