/- cofferlaw13.spoil of metadata of the call's own: it writes their rows, and new blocks. -/
import Derived.Test.YtfchbodbkdkcfaaDoorSpoilI
import Derived.Test.YtfchbodbkdkcfaaDoorBegin2
namespace Go.Proofs.YtfchbodbkdkcfaaDoor.Rk
open Go.RowKit Go.Lib Go.Proofs.YtfchbodbkdkcfaaDoor.Coll Go.Proofs.YtfchbodbkdkcfaaDoor.Meta Go.Proofs.YtfchbodbkdkcfaaDoor.Rooms

section
variable {P : Program} {Q : Exit → Act → World → Prop} {o : Oper} {a : Act} {w : World}
theorem w_fourC {K : Act → World → Prop} (t e : TypeId) (x1 x2 x3 x4 : Operand) (ho : o.op = .buildSlice t 4 #[(0, x1), (1, x2), (2, x3), (3, x4)]) (c1 c2 c3 c4 : Array Value) {n : Nat} (h1 : c1.size = n) (h2 : c2.size = n) (h3 : c3.size = n) (h4 : c4.size = n)
    (e1 : a.eval x1 = .agg c1) (e2 : a.eval x2 = .agg c2) (e3 : a.eval x3 = .agg c3) (e4 : a.eval x4 = .agg c4) (hu : P.underlying t = some (.slice e)) (hi : (P.info? e).map (·.size) = some n) (hz : ((P.info? e).bind (·.zero)).isSome = true) (hn : 0 < n) (hn2 : 4 * n ≤ 2 ^ 24)
    (h : K (a.put o.dst (.slice (some ⟨w.heap.size, 0, none⟩) 4 4)) (w.alloc (.cells (c1 ++ c2 ++ c3 ++ c4) e))) : o.wp P a w K Q := by
  cases hie : P.info? e with
  | none => simp [hie] at hi
  | some ie =>
    simp only [hie, Option.map_some, Option.some.injEq, Option.bind_some] at hi hz
    obtain ⟨z, hzz⟩ := Option.isSome_iff_exists.1 hz
    rw [show c1 ++ c2 ++ c3 ++ c4 = (c1.toList ++ c2.toList ++ c3.toList ++ c4.toList).toArray by simp] at h
    refine wp_buildSlice t e 4 _ ho _ ie z hu hie hzz (by rw [hi]; omega) (by rw [hi]; omega) ?_ h
    simp only [List.map_toArray, List.map_cons, List.map_nil, e1, e2, e3, e4, hi]
    have := Great.fill_whole (s := n) hn [.agg c1, .agg c2, .agg c3, .agg c4] ((Array.range (4 * n)).map (z.cells[· % z.cells.size]!)) (fun v hv => by
      simp only [List.mem_cons, List.not_mem_nil, or_false] at hv
      rcases hv with rfl | rfl | rfl | rfl <;> simp [Value.cells, h1, h2, h3, h4]) (by simp)
    simpa [Value.cells] using this
theorem p_four {ops : Array Oper} {rest : List Oper} (hg : Region.wanted o (yielded ops a.tmps) = true) (t e : TypeId) (x1 x2 x3 x4 : Operand) (ho : o.op = .buildSlice t 4 #[(0, x1), (1, x2), (2, x3), (3, x4)]) (c1 c2 c3 c4 : Array Value) {n : Nat} (h1 : c1.size = n) (h2 : c2.size = n) (h3 : c3.size = n) (h4 : c4.size = n)
    (e1 : a.eval x1 = .agg c1) (e2 : a.eval x2 = .agg c2) (e3 : a.eval x3 = .agg c3) (e4 : a.eval x4 = .agg c4) (hu : P.underlying t = some (.slice e)) (hi : (P.info? e).map (·.size) = some n) (hz : ((P.info? e).bind (·.zero)).isSome = true) (hn : 0 < n) (hn2 : 4 * n ≤ 2 ^ 24)
    (h : wpList P ops Q rest (a.put o.dst (.slice (some ⟨w.heap.size, 0, none⟩) 4 4)) (w.alloc (.cells (c1 ++ c2 ++ c3 ++ c4) e))) : wpList P ops Q (o :: rest) a w :=
  Step.p_wp hg (w_fourC t e x1 x2 x3 x4 ho c1 c2 c3 c4 h1 h2 h3 h4 e1 e2 e3 e4 hu hi hz hn hn2 h)
end
section
variable {P : Program} {ops : Array Oper} {Q : Exit → Act → World → Prop} {a : Act} {w : World} {o : Oper} {rest : List Oper}
theorem run_storeI (t : TypeId) (hi : (P.info? t).map (·.size) = some 1) (w : World) (b off : Nat) (k : IntKind) (z : Int) {T : TypeId} {cs : Array Value} (hb : w.heap[b]? = some (.cells cs T (0, 0))) (ho : off < cs.size) :
    (Instr.storeAt t (.pointer (some ⟨b, off, none⟩)) (.int k z)).run P w = .ok () (w.setCell ⟨b, off, none⟩ (.int k z)) := by
  cases hie : P.info? t with
  | none => simp [hie] at hi
  | some ie =>
    simp only [hie, Option.map_some, Option.some.injEq] at hi
    have hs : (sizeOf t).run P w = .ok 1 w := by simp [sizeOf, typeInfo, hie, hi]
    have hc := cell_of_row w b off _ _ _ hb
    have hf := frozen_of_row w b off _ _ hb
    rw [Array.getElem?_eq_getElem ho] at hc
    simp [Instr.storeAt, go_sem, storeVar, hs, storeCells, hc, hf]
theorem p_storeI (hgd : o.guard = none) (t : TypeId) (x y : Operand) (ho : o.op = .store t x y) (b off : Nat) (hx : a.eval x = .pointer (some ⟨b, off, none⟩)) (k : IntKind) (z : Int) (hy : a.eval y = .int k z) (hi : (P.info? t).map (·.size) = some 1) {T : TypeId} {cs : Array Value} (hb : w.heap[b]? = some (.cells cs T (0, 0))) (hol : off < cs.size)
    (h : wpList P ops Q rest (a.put o.dst undef) (w.setCell ⟨b, off, none⟩ (.int k z))) : wpList P ops Q (o :: rest) a w :=
  wpList_plain hgd fun K hK => Tree.w_skip (by
    unfold execOp
    simp only [ho, hx, hy, Sem.run_bind, run_storeI t hi w b off k z hb hol, Result.andThen_ok, Sem.run_pure]) (hK _ _ h)
end
theorem one_all {cs : Array Value} (h : cs.all (·.oneCell') = true) : ∀ u ∈ cs.toList, u.oneCell' = true := by
  rw [← Array.all_toList, List.all_eq_true] at h
  exact h
/-- only blocks from lo up to hi, and those from B on, may be others -/
structure SpW (B lo hi : Nat) (w0 w : World) : Prop where
  os : w.os = w0.os
  tape : w.tape = w0.tape
  output : w.output = w0.output
  size : w0.heap.size ≤ w.heap.size
  ge : B ≤ w.heap.size
  block : ∀ k, k < B → (k < lo ∨ hi ≤ k) → w.heap[k]? = w0.heap[k]?
theorem SpW.step {B lo hi : Nat} {w0 w w' : World} (h : SpW B lo hi w0 w) {ob : Option Nat} (hg : w.grownBy w' ob) (ho : ∀ b, ob = some b → (lo ≤ b ∧ b < hi) ∨ B ≤ b) : SpW B lo hi w0 w' :=
  ⟨hg.os.trans h.os, hg.tape.trans h.tape, hg.output.trans h.output, Nat.le_trans h.size hg.size, Nat.le_trans h.ge hg.size, fun k hk hr => by
    rw [hg.block k (Nat.lt_of_lt_of_le hk h.ge) (fun e => by have := ho k e.symm; omega)]
    exact h.block k hk hr⟩
def spoilt : ByteArray := ⟨#[115, 112, 111, 105, 108, 116]⟩
def setKind (L : List TokD) (k : Nat) : List TokD := L.modify k fun d => { d with kind := spoilt }
theorem setKind_flat : ∀ (L : List TokD) (k : Nat), k < L.length → (setKind L k).flatMap tokC = (L.flatMap tokC).set (k * 4 + 1) (.string spoilt)
  | d :: L, 0, _ => by simp [setKind, tokC]
  | d :: L, k + 1, h => by
    have ih := setKind_flat L k (by simpa using h)
    have e : (setKind (d :: L) (k + 1)) = d :: setKind L k := by simp [setKind]
    rw [e, List.flatMap_cons, ih, List.flatMap_cons, show (k + 1) * 4 + 1 = (tokC d).length + (k * 4 + 1) by simp [tokC]; omega]
    rw [List.set_append_right _ _ (by omega)]
    simp
theorem setKind_len (L : List TokD) (k : Nat) : (setKind L k).length = L.length := by simp [setKind]
theorem setKind_q (L : List TokD) (k i : Nat) (h : i < L.length) (h2 : i < (setKind L k).length) : ((setKind L k)[i]'h2).q = (L[i]'h).q ∧ ((setKind L k)[i]'h2).n = (L[i]'h).n ∧ ((setKind L k)[i]'h2).cap = (L[i]'h).cap ∧ ((setKind L k)[i]'h2).f = (L[i]'h).f := by
  simp only [setKind, List.getElem_modify]
  split <;> exact ⟨rfl, rfl, rfl, rfl⟩
/-- the blocks of metadata lie below hi -/
structure MHi (hi : Nat) (qs qe qg qt : Option Addr) (T : List TokD) : Prop where
  s : ∀ a, qs = some a → a.block < hi
  e : ∀ a, qe = some a → a.block < hi
  g : ∀ a, qg = some a → a.block < hi
  t : ∀ a, qt = some a → a.block < hi
  tok : ∀ i (h : i < T.length) a, (T[i]'h).q = some a → a.block < hi
/-- what holds between spoil's writes -/
structure SI (B lo hi : Nat) (cs : Array Value) (ns ne ng : Nat) (qs : Option Addr) (ks : Nat) (qe : Option Addr) (ke : Nat) (qg : Option Addr) (kg : Nat) (qt : Option Addr) (kt : Nat) (T : List TokD) (k : Nat) (w0 w : World) : Prop where
  sp : SpW B lo hi w0 w
  hb : hi ≤ B
  box : w.heap[B]? = some (.cells cs 56 (0, 0))
  s : ∃ xs, w.ownsRow lo 90 9 (.slice qs ns ks) ns xs
  e : ∃ xs, w.ownsRow lo 64 5 (.slice qe ne ke) ne xs
  g : ∃ xs, w.ownsRow lo 92 3 (.slice qg ng kg) ng xs
  t : w.ownsRow lo 41 4 (.slice qt T.length kt) T.length (T.flatMap tokC)
  tok : ∀ i (h : i < T.length), k ≤ i → w.ownsRow lo 3 1 (.slice (T[i]'h).q (T[i]'h).n (T[i]'h).cap) (T[i]'h).n (intC (T[i]'h).f (T[i]'h).n)
  dist : TokDist T.length T
  hi' : MHi hi qs qe qg qt T
section
variable {B lo hi : Nat} {cs : Array Value} {ns ne ng : Nat} {qs qe qg qt : Option Addr} {ks ke kg kt : Nat} {T : List TokD} {k : Nat} {w0 w w' : World}
theorem SI.box' (h : SI B lo hi cs ns ne ng qs ks qe ke qg kg qt kt T k w0 w) {x : Nat} (hx : x < hi) (hg : w.grownBy w' (some x)) : w'.heap[B]? = some (.cells cs 56 (0, 0)) := by
  rw [← h.box]
  exact hg.block B (Array.getElem?_eq_some_iff.1 h.box).1 (fun e => by cases e; have := h.hb; omega)
theorem ex_off {w w' : World} {e : TypeId} {size : Nat} {v : Value} {n : Nat} (h : ∃ xs, w.ownsRow lo e size v n xs) {ob : Option Nat} (hg : w.grownBy w' ob) (ho : Off w lo e ob) : ∃ xs, w'.ownsRow lo e size v n xs :=
  h.elim fun _ h => ⟨_, own_off h hg ho⟩
theorem SI.put_s {g j : Nat} {v : Value} (h : SI B lo hi cs ns ne ng qs ks qe ke qg kg qt kt T k w0 w) (hq : qs = some ⟨g, 0, none⟩) : SI B lo hi cs ns ne ng qs ks qe ke qg kg qt kt T k w0 (w.setCell ⟨g, j, none⟩ v) := by
  subst hq
  obtain ⟨xs, hx⟩ := h.s
  have hg := (hx.stored j v).2
  have hl := (Step.own_lt hx (g := g) rfl).1
  have hh : g < hi := h.hi'.s _ rfl
  exact ⟨h.sp.step hg (fun b e => by cases e; exact .inl ⟨hl, hh⟩), h.hb, h.box' hh hg, ⟨_, (hx.stored j v).1⟩, ex_off h.e hg (own_typed hx (by decide) lo), ex_off h.g hg (own_typed hx (by decide) lo), own_off h.t hg (own_typed hx (by decide) lo), fun i a b => own_off (h.tok i a b) hg (own_typed hx (by decide) lo), h.dist, h.hi'⟩
theorem SI.put_e {g j : Nat} {v : Value} (h : SI B lo hi cs ns ne ng qs ks qe ke qg kg qt kt T k w0 w) (hq : qe = some ⟨g, 0, none⟩) : SI B lo hi cs ns ne ng qs ks qe ke qg kg qt kt T k w0 (w.setCell ⟨g, j, none⟩ v) := by
  subst hq
  obtain ⟨xs, hx⟩ := h.e
  have hg := (hx.stored j v).2
  have hl := (Step.own_lt hx (g := g) rfl).1
  have hh : g < hi := h.hi'.e _ rfl
  exact ⟨h.sp.step hg (fun b e => by cases e; exact .inl ⟨hl, hh⟩), h.hb, h.box' hh hg, ex_off h.s hg (own_typed hx (by decide) lo), ⟨_, (hx.stored j v).1⟩, ex_off h.g hg (own_typed hx (by decide) lo), own_off h.t hg (own_typed hx (by decide) lo), fun i a b => own_off (h.tok i a b) hg (own_typed hx (by decide) lo), h.dist, h.hi'⟩
theorem SI.put_g {g j : Nat} {v : Value} (h : SI B lo hi cs ns ne ng qs ks qe ke qg kg qt kt T k w0 w) (hq : qg = some ⟨g, 0, none⟩) : SI B lo hi cs ns ne ng qs ks qe ke qg kg qt kt T k w0 (w.setCell ⟨g, j, none⟩ v) := by
  subst hq
  obtain ⟨xs, hx⟩ := h.g
  have hg := (hx.stored j v).2
  have hl := (Step.own_lt hx (g := g) rfl).1
  have hh : g < hi := h.hi'.g _ rfl
  exact ⟨h.sp.step hg (fun b e => by cases e; exact .inl ⟨hl, hh⟩), h.hb, h.box' hh hg, ex_off h.s hg (own_typed hx (by decide) lo), ex_off h.e hg (own_typed hx (by decide) lo), ⟨_, (hx.stored j v).1⟩, own_off h.t hg (own_typed hx (by decide) lo), fun i a b => own_off (h.tok i a b) hg (own_typed hx (by decide) lo), h.dist, h.hi'⟩
theorem SI.put_t {g j0 : Nat} (h : SI B lo hi cs ns ne ng qs ks qe ke qg kg qt kt T k w0 w) (hq : qt = some ⟨g, 0, none⟩) (hk : j0 < T.length) : SI B lo hi cs ns ne ng qs ks qe ke qg kg qt kt (setKind T j0) k w0 (w.setCell ⟨g, j0 * 4 + 1, none⟩ (.string spoilt)) := by
  subst hq
  obtain ⟨h1, hg⟩ := h.t.stored (j0 * 4 + 1) (.string spoilt)
  have hl := (Step.own_lt h.t (g := g) rfl).1
  have hh : g < hi := h.hi'.t _ rfl
  rw [← setKind_flat T j0 hk] at h1
  have hn := setKind_len T j0
  refine ⟨h.sp.step hg (fun b e => by cases e; exact .inl ⟨hl, hh⟩), h.hb, h.box' hh hg, ex_off h.s hg (own_typed h.t (by decide) lo), ex_off h.e hg (own_typed h.t (by decide) lo), ex_off h.g hg (own_typed h.t (by decide) lo), by rw [hn]; exact h1, fun i a b => ?_, fun i j a b c d x hx => ?_, ⟨h.hi'.s, h.hi'.e, h.hi'.g, h.hi'.t, fun i a => ?_⟩⟩
  · obtain ⟨e1, e2, e3, e4⟩ := setKind_q T j0 i (by rw [← hn]; exact a) a
    rw [e1, e2, e3, e4]
    exact own_off (h.tok i (by rw [← hn]; exact a) b) hg (own_typed h.t (by decide) lo)
  · obtain ⟨e1, e2, e3, e4⟩ := setKind_q T j0 i (by rw [← hn]; exact a) a
    obtain ⟨f1, f2, f3, f4⟩ := setKind_q T j0 j (by rw [← hn]; exact b) b
    unfold tokB at hx ⊢
    rw [e1, e2, e3] at hx
    rw [f1, f2, f3]
    exact h.dist i j (by rw [← hn]; exact a) (by rw [← hn]; exact b) c (by rw [← hn]; exact d) x hx
  · rw [(setKind_q T j0 i (by rw [← hn]; exact a) a).1]
    exact h.hi'.tok i (by rw [← hn]; exact a)
theorem SI.ints (h : SI B lo hi cs ns ne ng qs ks qe ke qg kg qt kt T k w0 w) (hk : k < T.length) (hg : w.grownBy w' (Value.slice (T[k]'hk).q (T[k]'hk).n (T[k]'hk).cap).ownBlock) : SI B lo hi cs ns ne ng qs ks qe ke qg kg qt kt T (k + 1) w0 w' := by
  have hx := h.tok k hk (Nat.le_refl _)
  have hr : ∀ b, (Value.slice (T[k]'hk).q (T[k]'hk).n (T[k]'hk).cap).ownBlock = some b → lo ≤ b ∧ b < hi := fun b e => ⟨(Step.own_lt hx e).1, by
    cases hq : (T[k]'hk).q with
    | none => rw [hq] at e; cases e
    | some a =>
      have := h.hi'.tok k hk a hq
      rw [hq] at e
      simp only [Value.ownBlock, Option.some.injEq] at e
      omega⟩
  refine ⟨h.sp.step hg (fun b e => .inl (hr b e)), h.hb, ?_, ex_off h.s hg (own_typed hx (by decide) lo), ex_off h.e hg (own_typed hx (by decide) lo), ex_off h.g hg (own_typed hx (by decide) lo), own_off h.t hg (own_typed hx (by decide) lo), fun i a b => ?_, h.dist, h.hi'⟩
  · rw [← h.box]
    exact hg.block B (Array.getElem?_eq_some_iff.1 h.box).1 (fun e => by have := hr B e.symm; have := h.hb; omega)
  · have hy := h.tok i a (by omega)
    refine hy.kept hg ?_
    cases hb : (Value.slice (T[k]'hk).q (T[k]'hk).n (T[k]'hk).cap).ownBlock with
    | none => cases hc : (Value.slice (T[i]'a).q (T[i]'a).n (T[i]'a).cap).ownBlock <;> simp
    | some x => exact .inr (h.dist k i hk a (by omega) a x hb)
theorem own_row {w : World} {lo : Nat} {e : TypeId} {size n g c : Nat} {xs : List Value} (h : w.ownsRow lo e size (.slice (some ⟨g, 0, none⟩) n c) n xs) {k : Nat} (hk : k < n) (hp : 0 < size := by decide) : ∃ cur, w.heap[g]? = some (.cells cur e (0, 0)) ∧ k * size < cur.size := by
  rcases h.2 with ⟨_, h⟩ | ⟨g', cap, cur, hv, _, h0, h1, h2, h3, _⟩
  · omega
  · simp only [Value.slice.injEq, Option.some.injEq, Addr.mk.injEq, and_true, true_and] at hv
    obtain ⟨rfl, rfl⟩ := hv
    exact ⟨cur, h0, by rw [h3]; exact (Nat.mul_lt_mul_right hp).2 (by omega)⟩
theorem own_form {w : World} {lo : Nat} {e : TypeId} {size n : Nat} {q : Option Addr} {c : Nat} {xs : List Value} (h : w.ownsRow lo e size (.slice q n c) n xs) {k : Nat} (hk : k < n) : ∃ g, q = some ⟨g, 0, none⟩ ∧ n ≤ c ∧ c ≤ 9223372036854775807 := by
  rcases h.2 with ⟨_, h⟩ | ⟨g, cap, cur, hv, _, _, h1, h2, _⟩
  · omega
  · simp only [Value.slice.injEq, true_and] at hv
    obtain ⟨rfl, rfl⟩ := hv
    exact ⟨g, rfl, h1, h2⟩
end

set_option maxRecDepth 100000 in
set_option maxHeartbeats 8000000 in
theorem spoil13_any (m : MetaD) (p : Places) (lo hi : Nat) (w : World) (h : MO lo w m p) (hd : TokDist m.toks.length m.toks) (hm : MHi hi p.qs p.qe p.qg p.qt m.toks) (hhi : hi ≤ w.heap.size) (hlo : lo ≤ w.heap.size)
    (bs : m.slots.length * 88 + 352 ≤ 140737488355328) (be : m.epochs.length * 72 + 288 ≤ 140737488355328) (bg : m.segs.length * 24 + 96 ≤ 140737488355328) (bt : m.toks.length * 64 + 256 ≤ 140737488355328) (bn : ∀ i (h : i < m.toks.length), (m.toks[i]'h).n ≤ 17592186043904) :
    Calls Tryd.prog 36 #[metaV m p] w fun e w' => (∃ x, e = .returned x) ∧ SpW w.heap.size lo hi w w' := by
  obtain ⟨qs, ks, qe, ke, qg, kg, qt, kt⟩ := p
  simp only at hm
  have HO := Lib.hid h
  have HD := Lib.hid hd
  have HM := Lib.hid hm
  have HBN := Lib.hid bn
  clear h hd hm bn
  obtain ⟨i_s, a1_s, a2_s, a3_s, a4_s⟩ := info_of (t := 90) (z := .agg #[.int .i64 0, .int .i64 0, .int .i64 0, .int .i64 0, .string ⟨#[]⟩, .string ⟨#[]⟩, .int .i64 0, .int .i64 0, .int .i64 0]) (s := 9) (b := 88) (by kernel_rfl)
  obtain ⟨i_e, a1_e, a2_e, a3_e, a4_e⟩ := info_of (t := 64) (z := .agg #[.int .u64 0, .string ⟨#[]⟩, .string ⟨#[]⟩, .string ⟨#[]⟩, .string ⟨#[]⟩]) (s := 5) (b := 72) (by kernel_rfl)
  obtain ⟨i_g, a1_g, a2_g, a3_g, a4_g⟩ := info_of (t := 92) (z := .agg #[.int .u64 0, .int .u64 0, .int .u64 0]) (s := 3) (b := 24) (by kernel_rfl)
  obtain ⟨i_t, a1_t, a2_t, a3_t, a4_t⟩ := info_of (t := 41) (z := .agg #[.int .i64 0, .string ⟨#[]⟩, .slice none 0 0, .string ⟨#[]⟩]) (s := 4) (b := 64) (by kernel_rfl)
  rw [metaV_eq]
  have c11 : (metaA m ⟨qs, ks, qe, ke, qg, kg, qt, kt⟩)[11]? = some (.slice qs m.slots.length ks) := rfl
  have c12 : (metaA m ⟨qs, ks, qe, ke, qg, kg, qt, kt⟩)[12]? = some (.slice qe m.epochs.length ke) := rfl
  have c13 : (metaA m ⟨qs, ks, qe, ke, qg, kg, qt, kt⟩)[13]? = some (.slice qg m.segs.length kg) := rfl
  have c26 : (metaA m ⟨qs, ks, qe, ke, qg, kg, qt, kt⟩)[26]? = some (.slice qt m.toks.length kt) := rfl
  generalize metaA m ⟨qs, ks, qe, ke, qg, kg, qt, kt⟩ = cs at *
  have C11 := Lib.hid c11
  have C12 := Lib.hid c12
  have C13 := Lib.hid c13
  have C26 := Lib.hid c26
  clear c11 c12 c13 c26
  go_enter Tryd.func36, Tryd.ntmps36
  go_upto_region 1 with fail
  have S0 : Hid (SI w.heap.size lo hi cs m.slots.length m.epochs.length m.segs.length qs ks qe ke qg kg qt kt m.toks 0 w (w.alloc (.cells cs 56))) := Lib.hid
    ⟨⟨rfl, rfl, rfl, by simp, by simp, fun k hk _ => heap_alloc_old w _ hk⟩, hhi, heap_alloc_new w _, ⟨_, HO.out.s.alloc _⟩, ⟨_, HO.out.e.alloc _⟩, ⟨_, HO.out.g.alloc _⟩, HO.out.t.alloc _, fun i a _ => (HO.out.tok i a).alloc _, HD.out, HM.out⟩
  clear HO HD HM
  generalize w.alloc (.cells cs 56) = w1 at *
  go_wp2
  go_loopw [2] (fun i wr => ∃ k : Nat, k ≤ m.slots.length ∧ i = .int .i64 k ∧ SI w.heap.size lo hi cs m.slots.length m.epochs.length m.segs.length qs ks qe ke qg kg qt kt m.toks 0 w wr) (fun i _ => m.slots.length - (intOf i).toNat)
  case atStart => exact ⟨0, by omega, rfl, S0.out⟩
  case round =>
  obtain ⟨k, hk, rfl, hs⟩ := hrel
  have S1 := Lib.hid hs
  clear S0
  have x11 := (cell_of_row _ _ 11 _ _ _ hs.box).trans C11.out
  by_cases hlt : k < m.slots.length
  · obtain ⟨xs, hx⟩ := hs.s
    obtain ⟨g, hq, hc1, hc2⟩ := own_form hx hlt
    have HQ := Lib.hid hq
    clear hs
    subst hq
    have hcell := hx.cellAt (k * 9) (by omega)
    have hfr := hx.frozenAt (k * 9)
    rw [List.getElem?_eq_getElem (by have := hx.1; omega)] at hcell
    obtain ⟨xv, hcell2⟩ : ∃ xv, wr.cell? ⟨g, k * 9, none⟩ = some xv := ⟨_, hcell⟩
    clear hcell hx
    go_wp2
    go_roundw
    case rel => exact ⟨k + 1, by omega, rfl, S1.out.put_s rfl⟩
    case measure => simp [intOf]; omega
  · obtain ⟨wl0, rfl⟩ : ∃ wl, wl = wr := ⟨_, rfl⟩
    clear hs
    go_wp2
    go_loopw [3] (fun i wr => ∃ k : Nat, k ≤ m.epochs.length ∧ i = .int .i64 k ∧ SI w.heap.size lo hi cs m.slots.length m.epochs.length m.segs.length qs ks qe ke qg kg qt kt m.toks 0 w wr) (fun i _ => m.epochs.length - (intOf i).toNat)
    case atStart => exact ⟨0, by omega, rfl, S1.out⟩
    case round =>
    obtain ⟨k, hk, rfl, hs⟩ := hrel
    have S2 := Lib.hid hs
    skip
    have x12 := (cell_of_row _ _ 12 _ _ _ hs.box).trans C12.out
    by_cases hlt : k < m.epochs.length
    · obtain ⟨xs, hx⟩ := hs.e
      obtain ⟨g, hq, hc1, hc2⟩ := own_form hx hlt
      have HQ := Lib.hid hq
      clear hs
      subst hq
      have hcell := hx.cellAt (k * 5) (by omega)
      have hfr := hx.frozenAt (k * 5)
      rw [List.getElem?_eq_getElem (by have := hx.1; omega)] at hcell
      obtain ⟨xv, hcell2⟩ : ∃ xv, wr.cell? ⟨g, k * 5, none⟩ = some xv := ⟨_, hcell⟩
      clear hcell hx
      go_wp2
      go_roundw
      case rel => exact ⟨k + 1, by omega, rfl, S2.out.put_e rfl⟩
      case measure => simp [intOf]; omega
    · obtain ⟨wl1, rfl⟩ : ∃ wl, wl = wr := ⟨_, rfl⟩
      clear hs
      go_wp2
      go_loopw [4] (fun i wr => ∃ k : Nat, k ≤ m.segs.length ∧ i = .int .i64 k ∧ SI w.heap.size lo hi cs m.slots.length m.epochs.length m.segs.length qs ks qe ke qg kg qt kt m.toks 0 w wr) (fun i _ => m.segs.length - (intOf i).toNat)
      case atStart => exact ⟨0, by omega, rfl, S2.out⟩
      case round =>
      obtain ⟨k, hk, rfl, hs⟩ := hrel
      have S3 := Lib.hid hs
      skip
      have x13 := (cell_of_row _ _ 13 _ _ _ hs.box).trans C13.out
      by_cases hlt : k < m.segs.length
      · obtain ⟨xs, hx⟩ := hs.g
        obtain ⟨g, hq, hc1, hc2⟩ := own_form hx hlt
        have HQ := Lib.hid hq
        clear hs
        subst hq
        have hcell := hx.cellAt (k * 3 + 2) (by omega)
        have hfr := hx.frozenAt (k * 3 + 2)
        rw [List.getElem?_eq_getElem (by have := hx.1; omega)] at hcell
        obtain ⟨xv, hcell2⟩ : ∃ xv, wr.cell? ⟨g, k * 3 + 2, none⟩ = some xv := ⟨_, hcell⟩
        clear hcell hx
        go_wp2
        go_roundw
        case rel => exact ⟨k + 1, by omega, rfl, S3.out.put_g rfl⟩
        case measure => simp [intOf]; omega
      · obtain ⟨wl2, rfl⟩ : ∃ wl, wl = wr := ⟨_, rfl⟩
        clear hs
        go_wp2
        go_loopw [5] (fun i wr => ∃ (k : Nat) (T : List TokD), T.length = m.toks.length ∧ k ≤ m.toks.length ∧ i = .int .i64 k ∧ (∀ i (h : i < T.length), (T[i]'h).n ≤ 17592186043904) ∧ SI w.heap.size lo hi cs m.slots.length m.epochs.length m.segs.length qs ks qe ke qg kg qt kt T k w wr) (fun i _ => m.toks.length - (intOf i).toNat)
        case atStart => exact ⟨0, m.toks, rfl, by omega, rfl, HBN.out, S3.out⟩
        case round =>
        obtain ⟨k, T, hT, hk, rfl, hn, hs⟩ := hrel
        have S4 := Lib.hid hs
        have HT := Lib.hid hT
        have HN := Lib.hid hn
        clear hn
        have x26 := (cell_of_row _ _ 26 _ _ _ hs.box).trans C26.out
        clear x11 x12 x13
        by_cases hlt : k < m.toks.length
        · have hlT : k < T.length := by rw [HT.out]; exact hlt
          obtain ⟨g, hq, hc1, hc2⟩ := own_form (hs.t) hlT
          rw [HT.out] at hc1
          have HQ := Lib.hid hq
          clear hT
          subst hq
          have hcell := hs.t.cellAt (k * 4 + 2) (by omega)
          rw [flat_get (sz := 4) (fun _ => rfl) T k 2 hlT (by decide)] at hcell
          have hcell2 : wr.cell? ⟨g, k * 4 + 2, none⟩ = some (.slice (T[k]'hlT).q (T[k]'hlT).n (T[k]'hlT).cap) := hcell
          have HSP := Lib.hid (spoilInts_any (T[k]'hlT).q (T[k]'hlT).n (T[k]'hlT).cap lo (T[k]'hlT).f wr (HN.out k hlT) (hs.tok k hlT (Nat.le_refl _)) (Nat.le_trans hlo S4.out.sp.size))
          have HIN := Lib.hid (fun (w' : World) => S4.out.ints (w' := w') hlT)
          generalize (T[k]'hlT).q = tq at hcell2 HSP HIN
          generalize (T[k]'hlT).n = tn at hcell2 HSP HIN
          generalize (T[k]'hlT).cap = tc at hcell2 HSP HIN
          clear hs hcell
          go_wp2_with fail
          refine HSP.out.mono ?_
          rintro e w2 ⟨⟨x, rfl⟩, hg2⟩
          have S5 := Lib.hid (HIN.out w2 hg2)
          clear hg2 hcell2 x26
          have x26 := (cell_of_row _ _ 26 _ _ _ S5.out.box).trans C26.out
          have hcell := S5.out.t.cellAt (k * 4 + 1) (by omega)
          have hfr := S5.out.t.frozenAt (k * 4 + 1)
          rw [List.getElem?_eq_getElem (by have := S5.out.t.1; omega)] at hcell
          go_wp2
          go_roundw
          case rel => exact ⟨k + 1, setKind T k, by rw [setKind_len]; exact HT.out, by omega, rfl, fun i h => by rw [(setKind_q T k i (by rw [← setKind_len T k]; exact h) h).2.1]; exact HN.out i _, S5.out.put_t rfl hlT⟩
          case measure => simp [intOf]; omega
        · obtain ⟨X0, rfl⟩ : ∃ X, X = wr := ⟨_, rfl⟩
          obtain rfl : k = m.toks.length := by omega
          have SPW := Lib.hid hs.sp
          have SPW0 := SPW
          have BX := Lib.hid hs.box
          have RS := Lib.hid hs.s
          have RE := Lib.hid hs.e
          have RG := Lib.hid hs.g
          have RT : Hid (∃ xs, X0.ownsRow lo 41 4 (.slice qt m.toks.length kt) m.toks.length xs) := Lib.hid ⟨_, by have := hs.t; rw [hT] at this; exact this⟩
          have HHI := Lib.hid hs.hi'
          clear hs S4 S3 hT HT HN
          go_upto_region 18 with fail
          refine wp_region_lit ?_
          clear x26
          refine Tree.p_field rfl _ _ _ rfl (w.heap.size) (0) rfl Tryd.underlying56 rfl (sz := 1) (by kernel_rfl) (by decide) (11) rfl ?_
          simp only [Act.put, List.setIfInBounds_toArray, List.set_cons_zero, List.set_cons_succ]
          refine Tree.p_load1 rfl _ _ rfl (w.heap.size) (11) rfl (.slice qs m.slots.length ks) ((cell_of_row _ _ 11 _ _ _ BX.out).trans C11.out) Tryd.underlying47 rfl ?_
          simp only [Act.put, List.setIfInBounds_toArray, List.set_cons_zero, List.set_cons_succ]
          refine Step.p_val rfl (.agg #[.int .i64 (-8), .int .i64 0, .int .i64 0, .int .i64 0, .string ⟨#[]⟩, .string ⟨#[]⟩, .int .i64 0, .int .i64 0, .int .i64 0]) (by unfold execOp; go_simp; try rfl) ?_
          simp only [Act.put, List.setIfInBounds_toArray, List.set_cons_zero, List.set_cons_succ]
          refine Step.p_val rfl (.agg #[.int .i64 (-9), .int .i64 0, .int .i64 0, .int .i64 0, .string ⟨#[]⟩, .string ⟨#[]⟩, .int .i64 0, .int .i64 0, .int .i64 0]) (by unfold execOp; go_simp; try rfl) ?_
          simp only [Act.put, List.setIfInBounds_toArray, List.set_cons_zero, List.set_cons_succ]
          refine Step.p_val rfl (.agg #[.int .i64 0, .int .i64 0, .int .i64 0, .int .i64 0, .string ⟨#[]⟩, .string ⟨#[]⟩, .int .i64 0, .int .i64 0, .int .i64 0]) (by unfold execOp; go_simp; try rfl) ?_
          simp only [Act.put, List.setIfInBounds_toArray, List.set_cons_zero, List.set_cons_succ]
          refine Step.p_val rfl (.agg #[.int .i64 0, .int .i64 0, .int .i64 0, .int .i64 0, .string ⟨#[]⟩, .string ⟨#[]⟩, .int .i64 0, .int .i64 0, .int .i64 0]) (by unfold execOp; go_simp; try rfl) ?_
          simp only [Act.put, List.setIfInBounds_toArray, List.set_cons_zero, List.set_cons_succ]
          refine p_four rfl 47 90 (.tmp 67) (.tmp 68) (.tmp 69) (.tmp 70) rfl #[.int .i64 (-8), .int .i64 0, .int .i64 0, .int .i64 0, .string ⟨#[]⟩, .string ⟨#[]⟩, .int .i64 0, .int .i64 0, .int .i64 0] #[.int .i64 (-9), .int .i64 0, .int .i64 0, .int .i64 0, .string ⟨#[]⟩, .string ⟨#[]⟩, .int .i64 0, .int .i64 0, .int .i64 0] #[.int .i64 0, .int .i64 0, .int .i64 0, .int .i64 0, .string ⟨#[]⟩, .string ⟨#[]⟩, .int .i64 0, .int .i64 0, .int .i64 0] #[.int .i64 0, .int .i64 0, .int .i64 0, .int .i64 0, .string ⟨#[]⟩, .string ⟨#[]⟩, .int .i64 0, .int .i64 0, .int .i64 0] (n := 9) rfl rfl rfl rfl rfl rfl rfl rfl Tryd.underlying47 (by kernel_rfl) (by kernel_rfl) (by decide) (by decide) ?_
          simp only [Act.put, List.setIfInBounds_toArray, List.set_cons_zero, List.set_cons_succ]
          obtain ⟨ms, hms⟩ : ∃ ms : Array Value, #[.int .i64 (-8), .int .i64 0, .int .i64 0, .int .i64 0, .string ⟨#[]⟩, .string ⟨#[]⟩, .int .i64 0, .int .i64 0, .int .i64 0] ++ #[.int .i64 (-9), .int .i64 0, .int .i64 0, .int .i64 0, .string ⟨#[]⟩, .string ⟨#[]⟩, .int .i64 0, .int .i64 0, .int .i64 0] ++ #[.int .i64 0, .int .i64 0, .int .i64 0, .int .i64 0, .string ⟨#[]⟩, .string ⟨#[]⟩, .int .i64 0, .int .i64 0, .int .i64 0] ++ #[.int .i64 0, .int .i64 0, .int .i64 0, .int .i64 0, .string ⟨#[]⟩, .string ⟨#[]⟩, .int .i64 0, .int .i64 0, .int .i64 0] = ms := ⟨_, rfl⟩
          have hm1 : ∀ u ∈ ms.toList, u.oneCell' = true := by rw [← hms]; exact one_all (by rw [← Array.all_toList]; rfl)
          have hm2 : ms.toList.length = 4 * 9 := by rw [← hms]; rfl
          rw [hms]
          clear hms
          obtain ⟨xs_s, hx⟩ := RS.out
          refine App.wpList_append_src _ rfl _ _ 47 rfl lo 90 i_s (.agg #[.int .i64 0, .int .i64 0, .int .i64 0, .int .i64 0, .string ⟨#[]⟩, .string ⟨#[]⟩, .int .i64 0, .int .i64 0, .int .i64 0]) 9 88 Tryd.underlying47 a1_s a2_s a3_s a4_s rfl (by decide) (.slice qs m.slots.length ks) m.slots.length xs_s rfl (hx.alloc _) (some ⟨X0.heap.size, 0, none⟩) 4 4 ms.toList rfl hm2 (fun h => by cases h) (fun j u hj => ⟨_, 0, rfl, (cell_of_row _ _ (0 + j) _ _ _ (heap_alloc_new X0 _)).trans (by rw [Nat.zero_add, ← Array.getElem?_toList]; exact hj)⟩) hm1 (by unfold maxLen; omega) (by omega) (Nat.le_trans (Nat.le_trans hlo SPW.out.size) (World.grownBy_alloc X0 _ none).size) ?_
          intro v_s Ys hown hgr hob
          simp only [Act.put, List.setIfInBounds_toArray, List.set_cons_zero, List.set_cons_succ]
          have ga : X0.grownBy (X0.alloc (.cells ms 90)) none := World.grownBy_alloc X0 _ none
          have hxa := hx.alloc (.cells ms 90)
          have hrange : ∀ b, (Value.slice qs m.slots.length ks).ownBlock = some b → lo ≤ b ∧ b < hi := fun b e => ⟨(Step.own_lt hx e).1, by
            cases hqq : qs with
            | none => rw [hqq] at e; cases e
            | some a =>
              have := HHI.out.s a hqq
              rw [hqq] at e
              simp only [Value.ownBlock, Option.some.injEq] at e
              omega⟩
          have SPW2 := Lib.hid ((SPW.out.step ga (by simp)).step hgr (fun b e => .inl (hrange b e)))
          clear SPW
          have SPW := SPW2
          clear SPW2
          have BX2 := Lib.hid ((hgr.block _ (Nat.lt_of_lt_of_le (Array.getElem?_eq_some_iff.1 BX.out).1 ga.size) (fun e => by have := hrange _ e.symm; omega)).trans ((ga.block _ (Array.getElem?_eq_some_iff.1 BX.out).1 (by simp)).trans BX.out))
          clear BX
          have BX := BX2
          clear BX2
          have R2 := Lib.hid (ex_off (ex_off RE.out ga .none) hgr (own_typed hxa (by decide) lo))
          clear RE
          have RE := R2
          clear R2
          have R2 := Lib.hid (ex_off (ex_off RG.out ga .none) hgr (own_typed hxa (by decide) lo))
          clear RG
          have RG := R2
          clear R2
          have R2 := Lib.hid (ex_off (ex_off RT.out ga .none) hgr (own_typed hxa (by decide) lo))
          clear RT
          have RT := R2
          clear R2
          have V6 : Hid (∃ xs, Ys.ownsRow lo 90 9 v_s (m.slots.length + 4) xs) := Lib.hid ⟨_, hown⟩
          have VB : Hid (∀ b, v_s.ownBlock = some b → (lo ≤ b ∧ b < hi) ∨ w.heap.size ≤ b) := Lib.hid (fun b e => by
            rcases hob with h | h
            · rw [h] at e; exact .inl (hrange b e)
            · rw [h] at e; cases e; exact .inr (Nat.le_trans SPW0.out.size ga.size))
          obtain ⟨qv_s, cv_s, rfl⟩ : ∃ q c, v_s = .slice q (m.slots.length + 4) c := by
            rcases hown.2 with ⟨_, h⟩ | ⟨g, cap, cur, rfl, _⟩
            · omega
            · exact ⟨_, cap, rfl⟩
          clear hown hgr hob ga hxa hrange hx hm1 hm2 RS
          refine Step.p_assign rfl _ rfl (.slice qv_s (m.slots.length + 4) cv_s) rfl ?_
          simp only [Act.put, List.setIfInBounds_toArray, List.set_cons_zero, List.set_cons_succ]
          refine wpList_nil ?_
          go_upto_region 19 with fail
          refine wp_region_lit ?_
          refine Tree.p_field rfl _ _ _ rfl (w.heap.size) (0) rfl Tryd.underlying56 rfl (sz := 1) (by kernel_rfl) (by decide) (12) rfl ?_
          simp only [Act.put, List.setIfInBounds_toArray, List.set_cons_zero, List.set_cons_succ]
          refine Tree.p_load1 rfl _ _ rfl (w.heap.size) (12) rfl (.slice qe m.epochs.length ke) ((cell_of_row _ _ 12 _ _ _ BX.out).trans C12.out) Tryd.underlying48 rfl ?_
          simp only [Act.put, List.setIfInBounds_toArray, List.set_cons_zero, List.set_cons_succ]
          refine Step.p_val rfl (.agg #[.int .u64 78, .string ⟨#[]⟩, .string ⟨#[]⟩, .string ⟨#[]⟩, .string ⟨#[]⟩]) (by unfold execOp; go_simp; try rfl) ?_
          simp only [Act.put, List.setIfInBounds_toArray, List.set_cons_zero, List.set_cons_succ]
          refine Step.p_val rfl (.agg #[.int .u64 79, .string ⟨#[]⟩, .string ⟨#[]⟩, .string ⟨#[]⟩, .string ⟨#[]⟩]) (by unfold execOp; go_simp; try rfl) ?_
          simp only [Act.put, List.setIfInBounds_toArray, List.set_cons_zero, List.set_cons_succ]
          refine Step.p_val rfl (.agg #[.int .u64 0, .string ⟨#[]⟩, .string ⟨#[]⟩, .string ⟨#[]⟩, .string ⟨#[]⟩]) (by unfold execOp; go_simp; try rfl) ?_
          simp only [Act.put, List.setIfInBounds_toArray, List.set_cons_zero, List.set_cons_succ]
          refine Step.p_val rfl (.agg #[.int .u64 0, .string ⟨#[]⟩, .string ⟨#[]⟩, .string ⟨#[]⟩, .string ⟨#[]⟩]) (by unfold execOp; go_simp; try rfl) ?_
          simp only [Act.put, List.setIfInBounds_toArray, List.set_cons_zero, List.set_cons_succ]
          refine p_four rfl 48 64 (.tmp 75) (.tmp 76) (.tmp 77) (.tmp 78) rfl #[.int .u64 78, .string ⟨#[]⟩, .string ⟨#[]⟩, .string ⟨#[]⟩, .string ⟨#[]⟩] #[.int .u64 79, .string ⟨#[]⟩, .string ⟨#[]⟩, .string ⟨#[]⟩, .string ⟨#[]⟩] #[.int .u64 0, .string ⟨#[]⟩, .string ⟨#[]⟩, .string ⟨#[]⟩, .string ⟨#[]⟩] #[.int .u64 0, .string ⟨#[]⟩, .string ⟨#[]⟩, .string ⟨#[]⟩, .string ⟨#[]⟩] (n := 5) rfl rfl rfl rfl rfl rfl rfl rfl Tryd.underlying48 (by kernel_rfl) (by kernel_rfl) (by decide) (by decide) ?_
          simp only [Act.put, List.setIfInBounds_toArray, List.set_cons_zero, List.set_cons_succ]
          obtain ⟨ms, hms⟩ : ∃ ms : Array Value, #[.int .u64 78, .string ⟨#[]⟩, .string ⟨#[]⟩, .string ⟨#[]⟩, .string ⟨#[]⟩] ++ #[.int .u64 79, .string ⟨#[]⟩, .string ⟨#[]⟩, .string ⟨#[]⟩, .string ⟨#[]⟩] ++ #[.int .u64 0, .string ⟨#[]⟩, .string ⟨#[]⟩, .string ⟨#[]⟩, .string ⟨#[]⟩] ++ #[.int .u64 0, .string ⟨#[]⟩, .string ⟨#[]⟩, .string ⟨#[]⟩, .string ⟨#[]⟩] = ms := ⟨_, rfl⟩
          have hm1 : ∀ u ∈ ms.toList, u.oneCell' = true := by rw [← hms]; exact one_all (by rw [← Array.all_toList]; rfl)
          have hm2 : ms.toList.length = 4 * 5 := by rw [← hms]; rfl
          rw [hms]
          clear hms
          obtain ⟨xs_e, hx⟩ := RE.out
          refine App.wpList_append_src _ rfl _ _ 48 rfl lo 64 i_e (.agg #[.int .u64 0, .string ⟨#[]⟩, .string ⟨#[]⟩, .string ⟨#[]⟩, .string ⟨#[]⟩]) 5 72 Tryd.underlying48 a1_e a2_e a3_e a4_e rfl (by decide) (.slice qe m.epochs.length ke) m.epochs.length xs_e rfl (hx.alloc _) (some ⟨Ys.heap.size, 0, none⟩) 4 4 ms.toList rfl hm2 (fun h => by cases h) (fun j u hj => ⟨_, 0, rfl, (cell_of_row _ _ (0 + j) _ _ _ (heap_alloc_new Ys _)).trans (by rw [Nat.zero_add, ← Array.getElem?_toList]; exact hj)⟩) hm1 (by unfold maxLen; omega) (by omega) (Nat.le_trans (Nat.le_trans hlo SPW.out.size) (World.grownBy_alloc Ys _ none).size) ?_
          intro v_e Ye hown hgr hob
          simp only [Act.put, List.setIfInBounds_toArray, List.set_cons_zero, List.set_cons_succ]
          have ga : Ys.grownBy (Ys.alloc (.cells ms 64)) none := World.grownBy_alloc Ys _ none
          have hxa := hx.alloc (.cells ms 64)
          have hrange : ∀ b, (Value.slice qe m.epochs.length ke).ownBlock = some b → lo ≤ b ∧ b < hi := fun b e => ⟨(Step.own_lt hx e).1, by
            cases hqq : qe with
            | none => rw [hqq] at e; cases e
            | some a =>
              have := HHI.out.e a hqq
              rw [hqq] at e
              simp only [Value.ownBlock, Option.some.injEq] at e
              omega⟩
          have SPW2 := Lib.hid ((SPW.out.step ga (by simp)).step hgr (fun b e => .inl (hrange b e)))
          clear SPW
          have SPW := SPW2
          clear SPW2
          have BX2 := Lib.hid ((hgr.block _ (Nat.lt_of_lt_of_le (Array.getElem?_eq_some_iff.1 BX.out).1 ga.size) (fun e => by have := hrange _ e.symm; omega)).trans ((ga.block _ (Array.getElem?_eq_some_iff.1 BX.out).1 (by simp)).trans BX.out))
          clear BX
          have BX := BX2
          clear BX2
          have R2 := Lib.hid (ex_off (ex_off RG.out ga .none) hgr (own_typed hxa (by decide) lo))
          clear RG
          have RG := R2
          clear R2
          have R2 := Lib.hid (ex_off (ex_off RT.out ga .none) hgr (own_typed hxa (by decide) lo))
          clear RT
          have RT := R2
          clear R2
          have R2 := Lib.hid (ex_off (ex_off V6.out ga .none) hgr (own_typed hxa (by decide) lo))
          clear V6
          have V6 := R2
          clear R2
          obtain ⟨qv_e, cv_e, rfl⟩ : ∃ q c, v_e = .slice q (m.epochs.length + 4) c := by
            rcases hown.2 with ⟨_, h⟩ | ⟨g, cap, cur, rfl, _⟩
            · omega
            · exact ⟨_, cap, rfl⟩
          clear hown hgr hob ga hxa hrange hx hm1 hm2 RE
          refine Step.p_assign rfl _ rfl (.slice qv_e (m.epochs.length + 4) cv_e) rfl ?_
          simp only [Act.put, List.setIfInBounds_toArray, List.set_cons_zero, List.set_cons_succ]
          refine wpList_nil ?_
          go_upto_region 20 with fail
          refine wp_region_lit ?_
          refine Tree.p_field rfl _ _ _ rfl (w.heap.size) (0) rfl Tryd.underlying56 rfl (sz := 1) (by kernel_rfl) (by decide) (13) rfl ?_
          simp only [Act.put, List.setIfInBounds_toArray, List.set_cons_zero, List.set_cons_succ]
          refine Tree.p_load1 rfl _ _ rfl (w.heap.size) (13) rfl (.slice qg m.segs.length kg) ((cell_of_row _ _ 13 _ _ _ BX.out).trans C13.out) Tryd.underlying49 rfl ?_
          simp only [Act.put, List.setIfInBounds_toArray, List.set_cons_zero, List.set_cons_succ]
          refine Step.p_val rfl (.agg #[.int .u64 0, .int .u64 0, .int .u64 778]) (by unfold execOp; go_simp; try rfl) ?_
          simp only [Act.put, List.setIfInBounds_toArray, List.set_cons_zero, List.set_cons_succ]
          refine Step.p_val rfl (.agg #[.int .u64 0, .int .u64 0, .int .u64 779]) (by unfold execOp; go_simp; try rfl) ?_
          simp only [Act.put, List.setIfInBounds_toArray, List.set_cons_zero, List.set_cons_succ]
          refine Step.p_val rfl (.agg #[.int .u64 0, .int .u64 0, .int .u64 0]) (by unfold execOp; go_simp; try rfl) ?_
          simp only [Act.put, List.setIfInBounds_toArray, List.set_cons_zero, List.set_cons_succ]
          refine Step.p_val rfl (.agg #[.int .u64 0, .int .u64 0, .int .u64 0]) (by unfold execOp; go_simp; try rfl) ?_
          simp only [Act.put, List.setIfInBounds_toArray, List.set_cons_zero, List.set_cons_succ]
          refine p_four rfl 49 92 (.tmp 83) (.tmp 84) (.tmp 85) (.tmp 86) rfl #[.int .u64 0, .int .u64 0, .int .u64 778] #[.int .u64 0, .int .u64 0, .int .u64 779] #[.int .u64 0, .int .u64 0, .int .u64 0] #[.int .u64 0, .int .u64 0, .int .u64 0] (n := 3) rfl rfl rfl rfl rfl rfl rfl rfl Tryd.underlying49 (by kernel_rfl) (by kernel_rfl) (by decide) (by decide) ?_
          simp only [Act.put, List.setIfInBounds_toArray, List.set_cons_zero, List.set_cons_succ]
          obtain ⟨ms, hms⟩ : ∃ ms : Array Value, #[.int .u64 0, .int .u64 0, .int .u64 778] ++ #[.int .u64 0, .int .u64 0, .int .u64 779] ++ #[.int .u64 0, .int .u64 0, .int .u64 0] ++ #[.int .u64 0, .int .u64 0, .int .u64 0] = ms := ⟨_, rfl⟩
          have hm1 : ∀ u ∈ ms.toList, u.oneCell' = true := by rw [← hms]; exact one_all (by rw [← Array.all_toList]; rfl)
          have hm2 : ms.toList.length = 4 * 3 := by rw [← hms]; rfl
          rw [hms]
          clear hms
          obtain ⟨xs_g, hx⟩ := RG.out
          refine App.wpList_append_src _ rfl _ _ 49 rfl lo 92 i_g (.agg #[.int .u64 0, .int .u64 0, .int .u64 0]) 3 24 Tryd.underlying49 a1_g a2_g a3_g a4_g rfl (by decide) (.slice qg m.segs.length kg) m.segs.length xs_g rfl (hx.alloc _) (some ⟨Ye.heap.size, 0, none⟩) 4 4 ms.toList rfl hm2 (fun h => by cases h) (fun j u hj => ⟨_, 0, rfl, (cell_of_row _ _ (0 + j) _ _ _ (heap_alloc_new Ye _)).trans (by rw [Nat.zero_add, ← Array.getElem?_toList]; exact hj)⟩) hm1 (by unfold maxLen; omega) (by omega) (Nat.le_trans (Nat.le_trans hlo SPW.out.size) (World.grownBy_alloc Ye _ none).size) ?_
          intro v_g Yg hown hgr hob
          simp only [Act.put, List.setIfInBounds_toArray, List.set_cons_zero, List.set_cons_succ]
          have ga : Ye.grownBy (Ye.alloc (.cells ms 92)) none := World.grownBy_alloc Ye _ none
          have hxa := hx.alloc (.cells ms 92)
          have hrange : ∀ b, (Value.slice qg m.segs.length kg).ownBlock = some b → lo ≤ b ∧ b < hi := fun b e => ⟨(Step.own_lt hx e).1, by
            cases hqq : qg with
            | none => rw [hqq] at e; cases e
            | some a =>
              have := HHI.out.g a hqq
              rw [hqq] at e
              simp only [Value.ownBlock, Option.some.injEq] at e
              omega⟩
          have SPW2 := Lib.hid ((SPW.out.step ga (by simp)).step hgr (fun b e => .inl (hrange b e)))
          clear SPW
          have SPW := SPW2
          clear SPW2
          have BX2 := Lib.hid ((hgr.block _ (Nat.lt_of_lt_of_le (Array.getElem?_eq_some_iff.1 BX.out).1 ga.size) (fun e => by have := hrange _ e.symm; omega)).trans ((ga.block _ (Array.getElem?_eq_some_iff.1 BX.out).1 (by simp)).trans BX.out))
          clear BX
          have BX := BX2
          clear BX2
          have R2 := Lib.hid (ex_off (ex_off RT.out ga .none) hgr (own_typed hxa (by decide) lo))
          clear RT
          have RT := R2
          clear R2
          have R2 := Lib.hid (ex_off (ex_off V6.out ga .none) hgr (own_typed hxa (by decide) lo))
          clear V6
          have V6 := R2
          clear R2
          obtain ⟨qv_g, cv_g, rfl⟩ : ∃ q c, v_g = .slice q (m.segs.length + 4) c := by
            rcases hown.2 with ⟨_, h⟩ | ⟨g, cap, cur, rfl, _⟩
            · omega
            · exact ⟨_, cap, rfl⟩
          clear hown hgr hob ga hxa hrange hx hm1 hm2 RG
          refine Step.p_assign rfl _ rfl (.slice qv_g (m.segs.length + 4) cv_g) rfl ?_
          simp only [Act.put, List.setIfInBounds_toArray, List.set_cons_zero, List.set_cons_succ]
          refine wpList_nil ?_
          go_upto_region 21 with fail
          refine wp_region_lit ?_
          refine Tree.p_field rfl _ _ _ rfl (w.heap.size) (0) rfl Tryd.underlying56 rfl (sz := 1) (by kernel_rfl) (by decide) (26) rfl ?_
          simp only [Act.put, List.setIfInBounds_toArray, List.set_cons_zero, List.set_cons_succ]
          refine Tree.p_load1 rfl _ _ rfl (w.heap.size) (26) rfl (.slice qt m.toks.length kt) ((cell_of_row _ _ 26 _ _ _ BX.out).trans C26.out) Tryd.underlying54 rfl ?_
          simp only [Act.put, List.setIfInBounds_toArray, List.set_cons_zero, List.set_cons_succ]
          refine Step.p_val rfl (.agg #[.int .i64 (-8), .string ⟨#[]⟩, .slice none 0 0, .string ⟨#[]⟩]) (by unfold execOp; go_simp; try rfl) ?_
          simp only [Act.put, List.setIfInBounds_toArray, List.set_cons_zero, List.set_cons_succ]
          refine Step.p_val rfl (.agg #[.int .i64 (-9), .string ⟨#[]⟩, .slice none 0 0, .string ⟨#[]⟩]) (by unfold execOp; go_simp; try rfl) ?_
          simp only [Act.put, List.setIfInBounds_toArray, List.set_cons_zero, List.set_cons_succ]
          refine Step.p_val rfl (.agg #[.int .i64 0, .string ⟨#[]⟩, .slice none 0 0, .string ⟨#[]⟩]) (by unfold execOp; go_simp; try rfl) ?_
          simp only [Act.put, List.setIfInBounds_toArray, List.set_cons_zero, List.set_cons_succ]
          refine Step.p_val rfl (.agg #[.int .i64 0, .string ⟨#[]⟩, .slice none 0 0, .string ⟨#[]⟩]) (by unfold execOp; go_simp; try rfl) ?_
          simp only [Act.put, List.setIfInBounds_toArray, List.set_cons_zero, List.set_cons_succ]
          refine p_four rfl 54 41 (.tmp 91) (.tmp 92) (.tmp 93) (.tmp 94) rfl #[.int .i64 (-8), .string ⟨#[]⟩, .slice none 0 0, .string ⟨#[]⟩] #[.int .i64 (-9), .string ⟨#[]⟩, .slice none 0 0, .string ⟨#[]⟩] #[.int .i64 0, .string ⟨#[]⟩, .slice none 0 0, .string ⟨#[]⟩] #[.int .i64 0, .string ⟨#[]⟩, .slice none 0 0, .string ⟨#[]⟩] (n := 4) rfl rfl rfl rfl rfl rfl rfl rfl Tryd.underlying54 (by kernel_rfl) (by kernel_rfl) (by decide) (by decide) ?_
          simp only [Act.put, List.setIfInBounds_toArray, List.set_cons_zero, List.set_cons_succ]
          obtain ⟨ms, hms⟩ : ∃ ms : Array Value, #[.int .i64 (-8), .string ⟨#[]⟩, .slice none 0 0, .string ⟨#[]⟩] ++ #[.int .i64 (-9), .string ⟨#[]⟩, .slice none 0 0, .string ⟨#[]⟩] ++ #[.int .i64 0, .string ⟨#[]⟩, .slice none 0 0, .string ⟨#[]⟩] ++ #[.int .i64 0, .string ⟨#[]⟩, .slice none 0 0, .string ⟨#[]⟩] = ms := ⟨_, rfl⟩
          have hm1 : ∀ u ∈ ms.toList, u.oneCell' = true := by rw [← hms]; exact one_all (by rw [← Array.all_toList]; rfl)
          have hm2 : ms.toList.length = 4 * 4 := by rw [← hms]; rfl
          rw [hms]
          clear hms
          obtain ⟨xs_t, hx⟩ := RT.out
          refine App.wpList_append_src _ rfl _ _ 54 rfl lo 41 i_t (.agg #[.int .i64 0, .string ⟨#[]⟩, .slice none 0 0, .string ⟨#[]⟩]) 4 64 Tryd.underlying54 a1_t a2_t a3_t a4_t rfl (by decide) (.slice qt m.toks.length kt) m.toks.length xs_t rfl (hx.alloc _) (some ⟨Yg.heap.size, 0, none⟩) 4 4 ms.toList rfl hm2 (fun h => by cases h) (fun j u hj => ⟨_, 0, rfl, (cell_of_row _ _ (0 + j) _ _ _ (heap_alloc_new Yg _)).trans (by rw [Nat.zero_add, ← Array.getElem?_toList]; exact hj)⟩) hm1 (by unfold maxLen; omega) (by omega) (Nat.le_trans (Nat.le_trans hlo SPW.out.size) (World.grownBy_alloc Yg _ none).size) ?_
          intro v_t Yt hown hgr hob
          simp only [Act.put, List.setIfInBounds_toArray, List.set_cons_zero, List.set_cons_succ]
          have ga : Yg.grownBy (Yg.alloc (.cells ms 41)) none := World.grownBy_alloc Yg _ none
          have hxa := hx.alloc (.cells ms 41)
          have hrange : ∀ b, (Value.slice qt m.toks.length kt).ownBlock = some b → lo ≤ b ∧ b < hi := fun b e => ⟨(Step.own_lt hx e).1, by
            cases hqq : qt with
            | none => rw [hqq] at e; cases e
            | some a =>
              have := HHI.out.t a hqq
              rw [hqq] at e
              simp only [Value.ownBlock, Option.some.injEq] at e
              omega⟩
          have SPW2 := Lib.hid ((SPW.out.step ga (by simp)).step hgr (fun b e => .inl (hrange b e)))
          clear SPW
          have SPW := SPW2
          clear SPW2
          have BX2 := Lib.hid ((hgr.block _ (Nat.lt_of_lt_of_le (Array.getElem?_eq_some_iff.1 BX.out).1 ga.size) (fun e => by have := hrange _ e.symm; omega)).trans ((ga.block _ (Array.getElem?_eq_some_iff.1 BX.out).1 (by simp)).trans BX.out))
          clear BX
          have BX := BX2
          clear BX2
          have R2 := Lib.hid (ex_off (ex_off V6.out ga .none) hgr (own_typed hxa (by decide) lo))
          clear V6
          have V6 := R2
          clear R2
          obtain ⟨qv_t, cv_t, rfl⟩ : ∃ q c, v_t = .slice q (m.toks.length + 4) c := by
            rcases hown.2 with ⟨_, h⟩ | ⟨g, cap, cur, rfl, _⟩
            · omega
            · exact ⟨_, cap, rfl⟩
          clear hown hgr hob ga hxa hrange hx hm1 hm2 RT
          refine Step.p_assign rfl _ rfl (.slice qv_t (m.toks.length + 4) cv_t) rfl ?_
          simp only [Act.put, List.setIfInBounds_toArray, List.set_cons_zero, List.set_cons_succ]
          refine wpList_nil ?_
          obtain ⟨xs6, h6⟩ := V6.out
          obtain ⟨g6, rfl, hc1, hc2⟩ := own_form h6 (k := m.slots.length + 3) (by omega)
          obtain ⟨cur6, hrow6, hsz6⟩ := own_row h6 (k := m.slots.length + 3) (by omega)
          have hg6 : ∀ v, Yt.grownBy (Yt.setCell ⟨g6, (m.slots.length + 3) * 9, none⟩ v) (some g6) := fun v => (h6.stored _ v).2
          have HF := Lib.hid (fun v => SPW.out.step (hg6 v) (fun b e => by cases e; exact VB.out g6 rfl))
          clear h6 hg6
          have hsum : ((m.slots.length + 4 : Nat) : Int) - 1 = ((m.slots.length + 3 : Nat) : Int) := by omega
          go_upto_region 22 with fail
          refine wp_region_lit ?_
          refine Step.p_move rfl _ rfl (.slice (some ⟨g6, 0, none⟩) (m.slots.length + 4) cv_s) rfl ?_
          simp only [Act.put, List.setIfInBounds_toArray, List.set_cons_zero, List.set_cons_succ]
          refine Step.p_move rfl _ rfl (.slice (some ⟨g6, 0, none⟩) (m.slots.length + 4) cv_s) rfl ?_
          simp only [Act.put, List.setIfInBounds_toArray, List.set_cons_zero, List.set_cons_succ]
          refine Step.p_len rfl _ _ 90 rfl (some ⟨g6, 0, none⟩) (m.slots.length + 4) (cv_s) rfl Tryd.underlying47 ?_
          simp only [Act.put, List.setIfInBounds_toArray, List.set_cons_zero, List.set_cons_succ]
          refine Step.p_val rfl (.int .i64 ((m.slots.length + 3 : Nat) : Int)) (by unfold execOp; go_simp; exact (IntWalk.i64_in _ (by omega)).trans (by omega)) ?_
          simp only [Act.put, List.setIfInBounds_toArray, List.set_cons_zero, List.set_cons_succ]
          refine Step.p_move rfl _ rfl (.slice qv_e (m.epochs.length + 4) cv_e) rfl ?_
          simp only [Act.put, List.setIfInBounds_toArray, List.set_cons_zero, List.set_cons_succ]
          refine Step.p_len rfl _ _ 64 rfl (qv_e) (m.epochs.length + 4) (cv_e) rfl Tryd.underlying48 ?_
          simp only [Act.put, List.setIfInBounds_toArray, List.set_cons_zero, List.set_cons_succ]
          refine Step.p_move rfl _ rfl (.slice qv_g (m.segs.length + 4) cv_g) rfl ?_
          simp only [Act.put, List.setIfInBounds_toArray, List.set_cons_zero, List.set_cons_succ]
          refine Step.p_len rfl _ _ 92 rfl (qv_g) (m.segs.length + 4) (cv_g) rfl Tryd.underlying49 ?_
          simp only [Act.put, List.setIfInBounds_toArray, List.set_cons_zero, List.set_cons_succ]
          refine Step.p_val rfl (.int .i64 (((m.epochs.length + 4 : Nat) : Int) + ((m.segs.length + 4 : Nat) : Int))) (by unfold execOp; go_simp; exact (IntWalk.i64_in _ (by omega)).trans (by omega)) ?_
          simp only [Act.put, List.setIfInBounds_toArray, List.set_cons_zero, List.set_cons_succ]
          refine Step.p_move rfl _ rfl (.slice qv_t (m.toks.length + 4) cv_t) rfl ?_
          simp only [Act.put, List.setIfInBounds_toArray, List.set_cons_zero, List.set_cons_succ]
          refine Step.p_len rfl _ _ 41 rfl (qv_t) (m.toks.length + 4) (cv_t) rfl Tryd.underlying54 ?_
          simp only [Act.put, List.setIfInBounds_toArray, List.set_cons_zero, List.set_cons_succ]
          refine Step.p_val rfl (.int .i64 ((((m.epochs.length + 4 : Nat) : Int) + ((m.segs.length + 4 : Nat) : Int)) + ((m.toks.length + 4 : Nat) : Int))) (by unfold execOp; go_simp; exact (IntWalk.i64_in _ (by omega)).trans (by omega)) ?_
          simp only [Act.put, List.setIfInBounds_toArray, List.set_cons_zero, List.set_cons_succ]
          refine Step.p_index rfl _ 90 _ _ rfl g6 0 (m.slots.length + 4) cv_s rfl (m.slots.length + 3) rfl (by omega) 9 Tryd.underlying47 (by kernel_rfl) ?_
          simp only [Act.put, List.setIfInBounds_toArray, List.set_cons_zero, List.set_cons_succ, Nat.zero_add]
          refine Tree.p_field rfl _ _ _ rfl (g6) ((m.slots.length + 3) * 9) rfl Tryd.underlying90 rfl (sz := 1) (by kernel_rfl) (by decide) ((m.slots.length + 3) * 9) rfl ?_
          simp only [Act.put, List.setIfInBounds_toArray, List.set_cons_zero, List.set_cons_succ]
          refine p_storeI rfl 3 _ _ rfl g6 ((m.slots.length + 3) * 9) rfl .i64 ((((m.epochs.length + 4 : Nat) : Int) + ((m.segs.length + 4 : Nat) : Int)) + ((m.toks.length + 4 : Nat) : Int)) rfl (by kernel_rfl) hrow6 hsz6 ?_
          refine wpList_nil ?_
          simp only [Act.put]
          go_wp2
          go_end0
          exact ⟨⟨_, rfl⟩, HF.out _⟩
end Go.Proofs.YtfchbodbkdkcfaaDoor.Rk
