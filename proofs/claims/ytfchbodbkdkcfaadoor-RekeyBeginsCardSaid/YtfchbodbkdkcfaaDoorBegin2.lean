/- Small laws for the end of Begin. -/
import Derived.Test.YtfchbodbkdkcfaaDoorBegin1
namespace Go.Proofs.YtfchbodbkdkcfaaDoor.Rk
open Go.RowKit Go.Lib Go.Proofs.YtfchbodbkdkcfaaDoor.Coll Go.Proofs.YtfchbodbkdkcfaaDoor.Meta Go.Proofs.YtfchbodbkdkcfaaDoor.Rooms

theorem patch_get (cur : Array Value) (k : Nat) (vs : List Value) (h : k + vs.length ≤ cur.size) (j : Nat) (v : Value) (hj : vs[j]? = some v) : (Tree.patch cur k vs)[k + j]? = some v := by
  have hl := (List.getElem?_eq_some_iff.1 hj).1
  simp only [Tree.patch, List.getElem?_toArray, List.append_assoc]
  rw [List.getElem?_append_right (by simp; omega), List.getElem?_append_left (by simp; omega)]
  rw [← hj]
  congr 1
  simp
  omega
theorem MO.set {lo : Nat} {w w' : World} {m : MetaD} {p : Places} (h : MO lo w m p) {z : Nat} (hg : w.grownBy w' (some z)) (hz : z < lo) : MO lo w' m p :=
  have o : ∀ {e : TypeId}, Off w lo e (some z) := fun b hb => .inl (by cases hb; exact hz)
  ⟨own_off h.s hg o, own_off h.e hg o, own_off h.g hg o, own_off h.t hg o, fun i hi => own_off (h.tok i hi) hg o⟩
theorem nOf_bd {m : MetaD} (h : shB m.unit m.count m.head m.keys = true) : 0 ≤ nOf m ∧ nOf m ≤ 4294967296 := by
  obtain ⟨h1, h2, h3, h4, h5, h6⟩ := shB_bd h
  unfold nOf szN stN
  omega
theorem nOf_pos {m : MetaD} (h : shB m.unit m.count m.head m.keys = true) : 1 ≤ nOf m := by
  obtain ⟨h1, h2, h3, h4, h5, h6⟩ := shB_bd h
  unfold nOf szN stN
  omega
end Go.Proofs.YtfchbodbkdkcfaaDoor.Rk
