/- What Begin answers, of any metadata. -/
import Derived.Test.YtfchbodbkdkcfaaDoorCopied
import Derived.Test.YtfchbodbkdkcfaaDoorRk10
namespace Go.Proofs.YtfchbodbkdkcfaaDoor.Rk
open Go.RowKit Go.Lib Go.Proofs.YtfchbodbkdkcfaaDoor.Coll Go.Proofs.YtfchbodbkdkcfaaDoor.Meta Go.Proofs.YtfchbodbkdkcfaaDoor.Rooms

theorem ba_inj {a b : ByteArray} (h : a.toList = b.toList) : a = b := by
  rw [ByteArray.toList_eq, ByteArray.toList_eq] at h
  obtain ⟨a⟩ := a
  obtain ⟨b⟩ := b
  congr 1
  exact Array.toList_inj.1 h
structure TurnD where
  ciph : ByteArray
  mode : Int
  back : Bool
  hot : Int
def turnC (t : TurnD) : List Value := [.string t.ciph, .int .i64 t.mode, .bool t.back, .int .u64 t.hot]
def areaC (off size : Int) : List Value := [.int .i64 off, .int .i64 size]
def lessB (L : List EpochD) (x : Int) : Bool := L.all fun e => decide (e.num < x)
def frO (m : MetaD) : Int := match m.segs with | [s] => s.2.2 | _ => 0
def segB (m : MetaD) : Bool := match m.segs with | [s] => decide (s.1 = 0) && decide (s.2.1 = nOf m) | _ => false
theorem segB_ne {m : MetaD} (h : ¬ m.segs.length = 1) : segB m = false := by
  unfold segB
  split <;> simp_all
def okB (m : MetaD) (d : EpochD) (off size : Int) (t : TurnD) : Bool :=
  plB m.unit m.head m.keys off size t.mode t.hot && decide (d.ciph = t.ciph) && lessB m.epochs d.num && segB m && decide (cntE m.epochs (frO m) = 1)
def bgE (m : MetaD) (d : EpochD) (off size : Int) (t : TurnD) : Int :=
  if shB m.unit m.count m.head m.keys && decide (m.epochs.length ≠ 0) then (if m.rot.on then 132 else if okB m d off size t then 0 else 2) else 2
def bgRot (m : MetaD) (d : EpochD) (off size : Int) (t : TurnD) : Rot := ⟨true, frO m, d.num, t.back, t.mode, t.hot, 0, off, size, false, 0, ⟨#[]⟩⟩
def bgM (m : MetaD) (d : EpochD) (r : Rot) (T : List TokD) : MetaD := { m with epochs := m.epochs ++ [d], segs := segsR (nOf m) r, rot := r, toks := T }
def mZ : MetaD := ⟨⟨#[]⟩, ⟨#[]⟩, ⟨#[]⟩, ⟨#[]⟩, 0, 0, 0, 0, 0, ⟨#[]⟩, ⟨#[]⟩, [], [], [], ⟨false, 0, 0, false, 0, 0, 0, 0, 0, false, 0, ⟨#[]⟩⟩, []⟩
def pZ : Places := ⟨none, 0, none, 0, none, 0, none, 0⟩
theorem metaV_z : metaV mZ pZ = .agg metaZ := rfl
/-- metadata whose lists are rows of the call's own -/
structure MO (lo : Nat) (w : World) (m : MetaD) (p : Places) : Prop where
  s : w.ownsRow lo 90 9 (.slice p.qs m.slots.length p.ks) m.slots.length (m.slots.flatMap slotC)
  e : w.ownsRow lo 64 5 (.slice p.qe m.epochs.length p.ke) m.epochs.length (m.epochs.flatMap epochC)
  g : w.ownsRow lo 92 3 (.slice p.qg m.segs.length p.kg) m.segs.length (m.segs.flatMap sgC)
  t : w.ownsRow lo 41 4 (.slice p.qt m.toks.length p.kt) m.toks.length (m.toks.flatMap tokC)
  tok : ∀ i (h : i < m.toks.length), w.ownsRow lo 3 1 (.slice (m.toks[i]'h).q (m.toks[i]'h).n (m.toks[i]'h).cap) (m.toks[i]'h).n (intC (m.toks[i]'h).f (m.toks[i]'h).n)
theorem MO.zero (lo : Nat) (w : World) : MO lo w mZ pZ :=
  ⟨World.ownsRow_nil _ _ _ _, World.ownsRow_nil _ _ _ _, World.ownsRow_nil _ _ _ _, World.ownsRow_nil _ _ _ _, fun _ h => absurd h (Nat.not_lt_zero _)⟩
theorem MO.mono {lo lo' : Nat} {w : World} {m : MetaD} {p : Places} (h : MO lo w m p) (hl : lo' ≤ lo) : MO lo' w m p := ⟨own_mono h.s hl, own_mono h.e hl, own_mono h.g hl, own_mono h.t hl, fun i hi => own_mono (h.tok i hi) hl⟩
theorem MO.gb {lo : Nat} {w w' : World} {m : MetaD} {p : Places} (h : MO lo w m p) (hg : w.grownBy w' none) : MO lo w' m p :=
  ⟨own_off h.s hg .none, own_off h.e hg .none, own_off h.g hg .none, own_off h.t hg .none, fun i hi => own_off (h.tok i hi) hg .none⟩
/-- tokens that are the same but for the place of their slots -/
structure TokEq (L T : List TokD) : Prop where
  len : T.length = L.length
  eq : ∀ i (h : i < L.length) (h2 : i < T.length), (T[i]'h2).num = (L[i]'h).num ∧ (T[i]'h2).kind = (L[i]'h).kind ∧ (T[i]'h2).note = (L[i]'h).note ∧ (T[i]'h2).n = (L[i]'h).n ∧ (T[i]'h2).f = (L[i]'h).f
structure BgW (lo : Nat) (w : World) (m : MetaD) (d : EpochD) (off size : Int) (t : TurnD) (E : Int) (r : MetaD) (p : Places) : Prop where
  own : MO lo w r p
  ok : E = 0 → r = bgM m d (bgRot m d off size t) r.toks ∧ TokEq m.toks r.toks
  no : E ≠ 0 → r = mZ
theorem BgW.zero {lo : Nat} {w : World} {m : MetaD} {d : EpochD} {off size : Int} {t : TurnD} {E : Int} (h : E ≠ 0) : BgW lo w m d off size t E mZ pZ :=
  ⟨.zero _ _, fun e => absurd e h, fun _ => rfl⟩
theorem al5 (w : World) (a b c d e : Obj) : ∃ X, (((((w.alloc a).alloc b).alloc c).alloc d).alloc e) = X ∧ X.heap[w.heap.size]? = some a ∧ X.heap[w.heap.size + 1]? = some b ∧ X.heap[w.heap.size + 2]? = some c ∧ X.heap[w.heap.size + 3]? = some d ∧ X.heap[w.heap.size + 4]? = some e ∧ X.heap.size = w.heap.size + 5 ∧ w.grownBy X none := by
  refine ⟨_, rfl, ?_, ?_, ?_, ?_, ?_, by simp, ?_⟩
  · rw [heap_alloc_old _ _ (by simp <;> omega), heap_alloc_old _ _ (by simp <;> omega), heap_alloc_old _ _ (by simp <;> omega), heap_alloc_old _ _ (by simp)]
    exact heap_alloc_new w _
  · rw [heap_alloc_old _ _ (by simp <;> omega), heap_alloc_old _ _ (by simp <;> omega), heap_alloc_old _ _ (by simp)]
    exact alloc_at _ _ _ (by simp)
  · rw [heap_alloc_old _ _ (by simp <;> omega), heap_alloc_old _ _ (by simp)]
    exact alloc_at _ _ _ (by simp)
  · rw [heap_alloc_old _ _ (by simp)]
    exact alloc_at _ _ _ (by simp)
  · exact alloc_at _ _ _ (by simp)
  · exact ⟨rfl, rfl, rfl, by simp; omega, fun k hk _ => by rw [heap_alloc_old _ _ (by simp <;> omega), heap_alloc_old _ _ (by simp <;> omega), heap_alloc_old _ _ (by simp <;> omega), heap_alloc_old _ _ (by simp <;> omega), heap_alloc_old _ _ hk]⟩
/-- the boxes of a walk of Begin -/
structure BB (b : Nat) (cs ce ca ct : Array Value) (w : World) : Prop where
  m : w.heap[b]? = some (.cells cs 56 (0, 0))
  d : w.heap[b + 1]? = some (.cells ce 64 (0, 0))
  a : w.heap[b + 2]? = some (.cells ca 51 (0, 0))
  t : w.heap[b + 3]? = some (.cells ct 66 (0, 0))
  r : w.heap[b + 4]? = some (.cells metaZ 56 (0, 0))
theorem BB.step {b : Nat} {cs ce ca ct : Array Value} {w w' : World} (h : BB b cs ce ca ct w) {ob : Option Nat} (hg : w.grownBy w' ob) (ho : ∀ x, ob = some x → b + 5 ≤ x) : BB b cs ce ca ct w' := by
  have k : ∀ j o, j < 5 → w.heap[b + j]? = some o → w'.heap[b + j]? = some o := fun j o hj e => (hg.block _ (Array.getElem?_eq_some_iff.1 e).1 (fun e2 => by have := ho _ e2.symm; omega)).trans e
  exact ⟨k 0 _ (by decide) h.m, k 1 _ (by decide) h.d, k 2 _ (by decide) h.a, k 3 _ (by decide) h.t, k 4 _ (by decide) h.r⟩
/-- the cells that a walk of Begin asks for -/
structure BC (ce ca ct : Array Value) (d : EpochD) (off size : Int) (t : TurnD) : Prop where
  e0 : ce[0]? = some (.int .u64 d.num)
  e1 : ce[1]? = some (.string d.ciph)
  es : ce.size = 5
  el : ce.toList = epochC d
  a : ∀ j v, (areaC off size)[j]? = some v → ca[0 + j]? = some v
  t0 : ct[0]? = some (.string t.ciph)
  t1 : ct[1]? = some (.int .i64 t.mode)
  t2 : ct[2]? = some (.bool t.back)
  t3 : ct[3]? = some (.int .u64 t.hot)
theorem bc (d : EpochD) (off size : Int) (t : TurnD) : BC (epochC d).toArray (areaC off size).toArray (turnC t).toArray d off size t :=
  ⟨rfl, rfl, rfl, rfl, fun j v h => by rw [Nat.zero_add, List.getElem?_toArray]; exact h, rfl, rfl, rfl, rfl⟩
theorem lessB_iff {L : List EpochD} {x : Int} : lessB L x = true ↔ ∀ k (h : k < L.length), (L[k]'h).num < x := by
  simp only [lessB, List.all_eq_true, decide_eq_true_eq]
  exact ⟨fun h k hk => h _ (List.getElem_mem hk), fun h e he => by
    obtain ⟨k, hk, rfl⟩ := List.getElem_of_mem he
    exact h k hk⟩
end Go.Proofs.YtfchbodbkdkcfaaDoor.Rk
