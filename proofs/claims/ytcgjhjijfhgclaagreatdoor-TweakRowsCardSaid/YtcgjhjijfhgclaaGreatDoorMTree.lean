/- The tail of a drawn region that copies a list, lays a mark behind it, cuts it and stores it: 'x.f = append(append([]T{}, q...), mark)[:n]'. General. -/
import Derived.Test.YtcgjhjijfhgclaaGreatDoorMApp
import Derived.Test.YtcgjhjijfhgclaaGreatDoorMStep
namespace Go.Proofs.YtcgjhjijfhgclaaGreatDoor.Tree
open Go.RowKit Go.Lib
section
theorem put_comm (a : Act) {d e : Nat} (h : d ≠ e) (x y : Value) : (a.put (some d) x).put (some e) y = (a.put (some e) y).put (some d) x := by
  simp only [Act.put, Act.mk.injEq, and_true]
  exact Array.setIfInBounds_comm _ _ h
theorem eval_ne (a : Act) {d k : Nat} (h : k ≠ d) (v : Value) : (a.put (some d) v).eval (.tmp k) = a.eval (.tmp k) := by
  have h' : d ≠ k := fun e => h e.symm
  simp [Act.put, Act.eval, h']
theorem eval_eq (a : Act) {d : Nat} (h : d < a.tmps.size) (v : Value) : (a.put (some d) v).eval (.tmp d) = v := by
  simp [Act.put, Act.eval, h]
theorem size_put (a : Act) (d : Option Nat) (v : Value) : (a.put d v).tmps.size = a.tmps.size := by
  cases d <;> simp [Act.put]
theorem grown_trans {w0 w1 w2 : World} {o : Option Nat} (h : w0.grownBy w1 none) (h2 : w1.grownBy w2 o) (ho : ∀ b, o = some b → w0.heap.size ≤ b) : w0.grownBy w2 none :=
  ⟨h2.os.trans h.os, h2.tape.trans h.tape, h2.output.trans h.output, Nat.le_trans h.size h2.size, fun k hk _ => by
    rw [h2.block k (Nat.lt_of_lt_of_le hk h.size) (fun e => by have := ho k e.symm; omega), h.block k hk (by simp)]⟩
theorem grown_refl (w : World) : w.grownBy w none := ⟨rfl, rfl, rfl, Nat.le_refl _, fun _ _ _ => rfl⟩
theorem grown_setCell {w0 w1 : World} (h : w0.grownBy w1 none) (p : Addr) (v : Value) : w0.grownBy (w1.setCell p v) (some p.block) :=
  ⟨h.os, h.tape, h.output, by simpa using h.size, fun k hk hne => by
    rw [heap_setCell_other w1 p k v (fun e => hne (by rw [e])), h.block k hk (by simp)]⟩
variable {P : Program} {K : Act → World → Prop} {Q : Exit → Act → World → Prop} {o : Oper} {a : Act} {w : World}
theorem w_empty (t e : TypeId) (ho : o.op = .buildSlice t 0 #[]) (hu : P.underlying t = some (.slice e)) {ie : TypeInfo} (hi : P.info? e = some ie)
    (h : K (a.put o.dst (.slice (some ⟨w.heap.size, 0, none⟩) 0 0)) (w.alloc (.cells #[] e))) : o.wp P a w K Q :=
  Step.w_run _ _ (by
    unfold execOp
    have hs : (sizeOf e).run P w = .ok ie.size w := by simp [sizeOf, typeInfo, hi]
    simp [ho, Instr.buildSlice, go_sem, run_underlying hu, hs, Instr.fill]) h
theorem w_oneC (t e : TypeId) (x : Operand) (ho : o.op = .buildSlice t 1 #[(0, x)]) (cs : Array Value) {n : Nat} (hcs : cs.size = n)
    (hx : a.eval x = .agg cs) (hu : P.underlying t = some (.slice e)) (hi : (P.info? e).map (·.size) = some n) (hz : ((P.info? e).bind (·.zero)).isSome = true) (hn : 0 < n) (hn2 : n ≤ 2 ^ 24)
    (h : K (a.put o.dst (.slice (some ⟨w.heap.size, 0, none⟩) 1 1)) (w.alloc (.cells cs e))) : o.wp P a w K Q := by
  cases hie : P.info? e with
  | none => simp [hie] at hi
  | some ie =>
    simp only [hie, Option.map_some, Option.some.injEq, Option.bind_some] at hi hz
    obtain ⟨z, hzz⟩ := Option.isSome_iff_exists.1 hz
    refine wp_buildSlice t e 1 _ ho _ ie z hu hie hzz (by rw [hi]; omega) (by rw [hi]; omega) ?_ h
    simp only [List.map_toArray, List.map_cons, List.map_nil, hx, hi]
    have := Great.fill_whole (s := n) hn [.agg cs] ((Array.range (1 * n)).map (z.cells[· % z.cells.size]!)) (fun v hv => by simp only [List.mem_singleton] at hv; subst hv; simp [Value.cells, hcs]) (by simp)
    simpa [Value.cells] using this
end
section
variable {P : Program} {Q : Exit → Act → World → Prop} {S : World → Prop} {a : Act} {w : World} {fuel : Nat} {listed : Array Bool} {i : Nat} {o : Oper} {tl l : List Oper} (hi : l.drop i = o :: tl) (hg : Region.wanted o (yielded l.toArray a.tmps) = true) (hs : Region.noSelect l.toArray = true) (hf : Region.free .any l.toArray listed i = true) (hr : (Region.ready .any l.toArray listed).contains i = true) (hS : S w)
include hi hg hs hf hr hS
theorem t_load1 (ty : TypeId) (x : Operand) (ho : o.op = .load ty x) (b off : Nat) (hx : a.eval x = .pointer (some ⟨b, off, none⟩)) {d : TypeDesc} (v : Value) (hA : ∀ w, S w → w.cell? ⟨b, off, none⟩ = some v) (hu : P.underlying ty = some d) (hd : Step.oneD d = true)
    (h : wpAnyH P .any l.toArray (NoPanic Q) S fuel (listed.setIfInBounds i true) (a.put o.dst v) w) : wpAnyH P .any l.toArray (NoPanic Q) S (fuel + 1) listed a w :=
  Step.t_val hi hg hs hf hr hS v (fun w hw => by
    unfold execOp
    simp only [ho, hx, Instr.loadAt, Instr.sureAddr, Sem.run_bind, Sem.run_pure, Result.andThen_ok, Step.run_load1 ty b off hu hd (hA w hw)]) h
theorem t_field (s : TypeId) (x : Operand) (f : Nat) (ho : o.op = .fieldAddr s x f) (b off : Nat) (hx : a.eval x = .pointer (some ⟨b, off, none⟩)) {fs : Array Field} {fd : Field} (hu : P.underlying s = some (.struct fs)) (hfd : fs[f]? = some fd) {sz : Nat} (hi' : (P.info? fd.type).map (·.size) = some sz) (hsz : sz ≠ 0) (off2 : Nat) (ho2 : off + fd.offset = off2)
    (h : wpAnyH P .any l.toArray (NoPanic Q) S fuel (listed.setIfInBounds i true) (a.put o.dst (.pointer (some ⟨b, off2, none⟩))) w) : wpAnyH P .any l.toArray (NoPanic Q) S (fuel + 1) listed a w :=
  Step.t_val hi hg hs hf hr hS _ (fun w _ => by
    subst ho2
    unfold execOp
    simp only [ho, hx, Sem.run_bind, Step.run_field0 s b off f hu hfd hi' hsz, Result.andThen_ok, Sem.run_pure]) h
end
section
variable {P : Program} {Q : Exit → Act → World → Prop} {S : World → Prop} {a : Act} {w0 : World}
theorem w_skip {o : Oper} {w w' : World} {K : Act → World → Prop} (hr : (execOp a.eval o).run P w = .ok .skip w') (h : K (a.put o.dst undef) w') : o.wp P a w K Q := by
  unfold Oper.wp; rw [hr]; exact h

theorem wantedG {o : Oper} {ys : Nat → Option Bool} (h : o.guard = none) : Region.wanted o ys = true := by simp [Region.wanted, h]
theorem own_at {w w' : World} {base : Nat} {e : TypeId} {size : Nat} {v : Value} {n : Nat} {xs : List Value} (h : w.ownsRow base e size v n xs) {z : Nat} (hz : z < base) {x : Value} {off : Nat} (hw : w' = w.setCell ⟨z, off, none⟩ x) : w'.ownsRow base e size v n xs := by
  subst hw
  exact Step.own_of h fun g hg => heap_setCell_other w ⟨z, off, none⟩ g x (fun e => by have := (Step.own_lt h hg).1; simp at e; omega)
theorem run_cut (t e : TypeId) (ht : P.underlying t = some (.slice e)) {ie : TypeInfo} (hie : P.info? e = some ie) (w : World) (g n cap m : Nat) (hm : m ≤ cap) :
    (Instr.sliceAt t (.slice (some ⟨g, 0, none⟩) n cap) none (some (.int .i64 m)) none).run P w = .ok (.slice (some ⟨g, 0, none⟩) m cap) w := by
  have hs : (sizeOf e).run P w = .ok ie.size w := by simp [sizeOf, typeInfo, hie]
  have h1 : (0 : Int) ≤ m ∧ (m : Int) ≤ cap := by omega
  have h2 : ¬ cap < m := by omega
  simp [Instr.sliceAt, Instr.slice, go_sem, run_underlying ht, hs, Instr.sliceBounds, Instr.sliceBound, asIntOf, h1, h2, Addr.add]
theorem run_store1 (t : TypeId) (hi : (P.info? t).map (·.size) = some 1) (w : World) (b off : Nat) (q : Option Addr) (n c : Nat) {T : TypeId} {cs : Array Value} (hb : w.heap[b]? = some (.cells cs T (0, 0))) (ho : off < cs.size) :
    (Instr.storeAt t (.pointer (some ⟨b, off, none⟩)) (.slice q n c)).run P w = .ok () (w.setCell ⟨b, off, none⟩ (.slice q n c)) := by
  cases hie : P.info? t with
  | none => simp [hie] at hi
  | some ie =>
    simp only [hie, Option.map_some, Option.some.injEq] at hi
    have hs : (sizeOf t).run P w = .ok 1 w := by simp [sizeOf, typeInfo, hie, hi]
    have hc := cell_of_row w b off _ _ _ hb
    have hf := frozen_of_row w b off _ _ hb
    rw [Array.getElem?_eq_getElem ho] at hc
    simp [Instr.storeAt, go_sem, storeVar, hs, storeCells, hc, hf]

theorem w_store1 {o : Oper} {w : World} {K : Act → World → Prop} (t : TypeId) (x y : Operand) (ho : o.op = .store t x y) (b off : Nat) (hx : a.eval x = .pointer (some ⟨b, off, none⟩)) (q : Option Addr) (n c : Nat) (hy : a.eval y = .slice q n c) (hi : (P.info? t).map (·.size) = some 1) {T : TypeId} {cs : Array Value} (hb : w.heap[b]? = some (.cells cs T (0, 0))) (hol : off < cs.size)
    (h : K (a.put o.dst undef) (w.setCell ⟨b, off, none⟩ (.slice q n c))) : o.wp P a w K Q :=
  w_skip (by
    unfold execOp
    simp only [ho, hx, hy, Sem.run_bind, run_store1 t hi w b off q n c hb hol, Result.andThen_ok, Sem.run_pure]) h
/-- the append of the mark, the cut, the store -/
theorem mark_tail0 {l : List Oper} {L1 L2 L3 L4 L5 : Array Bool} {i6 i10 i11 i12 : Nat} {o6 o10 o11 o12 : Oper} {r6 r10 r11 r12 : List Oper}
    (t e : TypeId) {size bytes : Nat} {ie : TypeInfo} {zv : Value} (ht : P.underlying t = some (.slice e)) (hie : P.info? e = some ie) (hz : ie.zero = some zv) (hsize : ie.size = size) (hby : ie.bytes = bytes) (hzs : zv.cells.size = size) (hpos : 0 < size) (ht1 : (P.info? t).map (·.size) = some 1)
    (N d3 d5 d6 d10 d11 kl kp : Nat) (hN : a.tmps.size = N) (hlt : d11 < N) (hnd : (kp < d6 ∧ d5 < d6) ∧ kl < d10 ∧ d6 < d10 ∧ d10 < d11) (hkl : kl ≠ d6)
    (v1 : Value) (h m k : Nat) (ms : Array Value) (z2 : Nat) (h3 : a.eval (.tmp d3) = v1) (h5 : a.eval (.tmp d5) = .slice (some ⟨h, 0, none⟩) k k) (hl : a.eval (.tmp kl) = .int .i64 m) (hp : a.eval (.tmp kp) = .pointer (some ⟨z2, 0, none⟩)) (hms : ms.size = k * size) (hk : 0 < k)
    (news : List Value) (h1m : ∀ u ∈ ms.toList, u.oneCell' = true) (hm : m + k ≤ maxLen) (hb : (m + k) * bytes ≤ 140737488355328)
    (g6 : l.drop i6 = o6 :: r6) (g10 : l.drop i10 = o10 :: r10) (g11 : l.drop i11 = o11 :: r11) (g12 : l.drop i12 = o12 :: r12)
    (s6 : o6.dst = some d6 ∧ o6.guard = none) (s10 : o10.dst = some d10 ∧ o10.guard = none) (s11 : o11.dst = some d11 ∧ o11.guard = none) (s12 : o12.dst = none ∧ o12.guard = none)
    (p6 : o6.op = .call { callee := .builtin .append, args := #[.tmp d3, .tmp d5], argTypes := #[t, t] })
    (p10 : o10.op = .slice t (.tmp d6) none (some (.tmp kl)) none) (sT : TypeId) (fi : Nat) (p11 : o11.op = .fieldAddr sT (.tmp kp) fi) (p12 : o12.op = .store t (.tmp d11) (.tmp d10))
    {fs : Array Field} {fd : Field} (hus : P.underlying sT = some (.struct fs)) (hfd : fs[fi]? = some fd) (hf1 : (P.info? fd.type).map (·.size) = some 1) (off : Nat) (hoff : fd.offset = off)
    (q6 : Region.ready .any l.toArray L1 = [i6]) (e6 : L1.setIfInBounds i6 true = L2) (q10 : Region.ready .any l.toArray L2 = [i10]) (e10 : L2.setIfInBounds i10 true = L3) (q11 : Region.ready .any l.toArray L3 = [i11]) (e11 : L3.setIfInBounds i11 true = L4) (q12 : Region.ready .any l.toArray L4 = [i12]) (e12 : L4.setIfInBounds i12 true = L5) (qe : Region.ready .any l.toArray L5 = [])
    {w1 : World} {base : Nat} (hS : ∀ w2 w', w1.grownBy w2 v1.ownBlock → (w' = w2 ∨ ∃ x, w' = w2.setCell ⟨z2, off, none⟩ x) → S w') {T : TypeId} {cs : Array Value} (hcs : w1.heap[z2]? = some (.cells cs T (0, 0))) (hol : off < cs.size) (hzv : v1.ownBlock ≠ some z2)
    (hown : w1.ownsRow base e size v1 m news) (hmark : w1.heap[h]? = some (.cells ms e (0, 0))) (hbase : base ≤ w1.heap.size)
    (hK : ∀ g cap w2 w3, w3.ownsRow base e size (.slice (some ⟨g, 0, none⟩) (m + k) cap) (m + k) (news ++ ms.toList) → w3.heap[z2]? = some (.cells (cs.setIfInBounds off (.slice (some ⟨g, 0, none⟩) m cap)) T (0, 0)) → w1.grownBy w2 v1.ownBlock → w3 = w2.setCell ⟨z2, off, none⟩ (.slice (some ⟨g, 0, none⟩) m cap) → m + k ≤ cap → cap ≤ maxLen → (v1.ownBlock = some g ∨ w1.heap.size = g) →
      Q .normal (((a.put (some d6) (.slice (some ⟨g, 0, none⟩) (m + k) cap)).put (some d10) (.slice (some ⟨g, 0, none⟩) m cap)).put (some d11) (.pointer (some ⟨z2, off, none⟩))) w3) :
    wpAnyH P .any l.toArray (NoPanic Q) S 4 L1 a w1 := by
  obtain ⟨⟨u1, u2⟩, u3, u4, u5⟩ := hnd
  have hzl : z2 < w1.heap.size := (Array.getElem?_eq_some_iff.1 hcs).1
  refine Step.t_one g6 (wantedG s6.2) q6 ?_
  refine Step.w_append _ _ t p6 base e ie zv size bytes ht hie hz hsize hby hzs hpos v1 m news h3 hown ⟨h, 0, none⟩ k k ms.toList h5 (by simp [hms]) ?_ h1m hm hb hbase ?_
  · intro j u hj
    rw [Addr.add_mid, Nat.zero_add, cell_of_row _ _ j ms _ _ hmark]
    simpa using hj
  intro v2 w2 hown2 hgr2 _ hv2b
  refine ⟨hS _ _ hgr2 (.inl rfl), ?_⟩
  rw [e6, s6.1]
  obtain ⟨g, cap, hv2, hnc, hcm, hgb⟩ : ∃ g cap, v2 = .slice (some ⟨g, 0, none⟩) (m + k) cap ∧ m + k ≤ cap ∧ cap ≤ maxLen ∧ base ≤ g := by
    rcases hown2.2 with ⟨_, h⟩ | ⟨g, cap, cur, hv, hg, _, hn, hm, _⟩
    · omega
    · exact ⟨g, cap, hv, hn, hm, hg⟩
  subst hv2
  have hgz : v1.ownBlock = some g ∨ w1.heap.size = g := by
    rcases hv2b with e | e
    · exact .inl e.symm
    · exact .inr (by simpa [Value.ownBlock, eq_comm] using e)
  have E10 : (a.put (some d6) (.slice (some ⟨g, 0, none⟩) (m + k) cap)).eval (.tmp d6) = .slice (some ⟨g, 0, none⟩) (m + k) cap := eval_eq a (by rw [hN]; omega) _
  have E10l : (a.put (some d6) (.slice (some ⟨g, 0, none⟩) (m + k) cap)).eval (.tmp kl) = .int .i64 m := (eval_ne a hkl _).trans hl
  refine Step.t_one g10 (wantedG s10.2) q10 (Step.w_run (.slice (some ⟨g, 0, none⟩) m cap) w2 ?_ ?_)
  · unfold execOp
    rw [p10]
    simp only [Option.map_none, Option.map_some, E10, E10l, Sem.run_bind, run_cut t e ht hie w2 g (m + k) cap m (by omega), Result.andThen_ok, Sem.run_pure]
  refine ⟨hS _ _ hgr2 (.inl rfl), ?_⟩
  rw [e10, s10.1]
  generalize hA1 : (a.put (some d6) (.slice (some ⟨g, 0, none⟩) (m + k) cap)).put (some d10) (.slice (some ⟨g, 0, none⟩) m cap) = a1
  have E11 : a1.eval (.tmp kp) = .pointer (some ⟨z2, 0, none⟩) := by rw [← hA1, eval_ne _ (by omega), eval_ne _ (by omega), hp]
  have E12 : a1.eval (.tmp d10) = .slice (some ⟨g, 0, none⟩) m cap := by rw [← hA1, eval_eq _ (by rw [size_put, hN]; omega)]
  have N1 : a1.tmps.size = N := by rw [← hA1, size_put, size_put, hN]
  refine Step.t_one g11 (wantedG s11.2) q11 (Step.w_run (.pointer (some ⟨z2, off, none⟩)) w2 ?_ ?_)
  · unfold execOp
    rw [p11]
    simp only [E11, Sem.run_bind, Step.run_field0 sT z2 0 fi hus hfd hf1 (by decide), Result.andThen_ok, Sem.run_pure, Nat.zero_add, hoff]
  refine ⟨hS _ _ hgr2 (.inl rfl), ?_⟩
  rw [e11, s11.1]
  have hz2 : w2.heap[z2]? = some (.cells cs T (0, 0)) := (hgr2.block _ hzl (fun e => hzv e.symm)).trans hcs
  have F1 : (a1.put (some d11) (.pointer (some ⟨z2, off, none⟩))).eval (.tmp d11) = .pointer (some ⟨z2, off, none⟩) := eval_eq a1 (by rw [N1]; omega) _
  have F2 : (a1.put (some d11) (.pointer (some ⟨z2, off, none⟩))).eval (.tmp d10) = .slice (some ⟨g, 0, none⟩) m cap := (eval_ne a1 (by omega) _).trans E12
  have X1 : (w2.setCell ⟨z2, off, none⟩ (.slice (some ⟨g, 0, none⟩) m cap)).ownsRow base e size (.slice (some ⟨g, 0, none⟩) (m + k) cap) (m + k) (news ++ ms.toList) :=
    Step.own_of hown2 fun g' hg' => heap_setCell_other w2 ⟨z2, off, none⟩ g' _ (fun e' => by
      have : g' = g := by simpa [Value.ownBlock, eq_comm] using hg'
      simp at e'
      subst e'
      rcases hgz with h | h
      · exact hzv (by rw [this]; exact h)
      · omega)
  have X2 := heap_setCell_same w2 z2 off _ _ (.slice (some ⟨g, 0, none⟩) m cap) hz2
  have fin := hK g cap w2 _ X1 X2 hgr2 rfl hnc hcm hgz
  rw [hA1] at fin
  refine Step.t_one g12 (wantedG s12.2) q12 (w_skip (w' := w2.setCell ⟨z2, off, none⟩ (.slice (some ⟨g, 0, none⟩) m cap)) ?_ ?_)
  · unfold execOp
    rw [p12]
    simp only [F1, F2, Sem.run_bind, run_store1 t ht1 w2 z2 off _ _ _ hz2 hol, Result.andThen_ok, Sem.run_pure]
  refine ⟨hS _ _ hgr2 (.inr ⟨_, rfl⟩), ?_⟩
  rw [e12, s12.1]
  exact Step.t_end qe fin
/-- the append of the mark, the cut, the store -/
theorem mark_tail {l : List Oper} {L1 L2 L3 L4 L5 : Array Bool} {i6 i10 i11 i12 : Nat} {o6 o10 o11 o12 : Oper} {r6 r10 r11 r12 : List Oper}
    (t e : TypeId) {size bytes : Nat} {ie : TypeInfo} {zv : Value} (ht : P.underlying t = some (.slice e)) (hie : P.info? e = some ie) (hz : ie.zero = some zv) (hsize : ie.size = size) (hby : ie.bytes = bytes) (hzs : zv.cells.size = size) (hpos : 0 < size) (ht1 : (P.info? t).map (·.size) = some 1)
    (N d3 d5 d6 d10 d11 kl kp : Nat) (hN : a.tmps.size = N) (hlt : d11 < N) (hnd : (kp < d6 ∧ d5 < d6) ∧ kl < d10 ∧ d6 < d10 ∧ d10 < d11) (hkl : kl ≠ d6)
    (v1 : Value) (h m k : Nat) (ms : Array Value) (z2 : Nat) (h3 : a.eval (.tmp d3) = v1) (h5 : a.eval (.tmp d5) = .slice (some ⟨h, 0, none⟩) k k) (hl : a.eval (.tmp kl) = .int .i64 m) (hp : a.eval (.tmp kp) = .pointer (some ⟨z2, 0, none⟩)) (hms : ms.size = k * size) (hk : 0 < k)
    (news : List Value) (h1m : ∀ u ∈ ms.toList, u.oneCell' = true) (hm : m + k ≤ maxLen) (hb : (m + k) * bytes ≤ 140737488355328)
    (g6 : l.drop i6 = o6 :: r6) (g10 : l.drop i10 = o10 :: r10) (g11 : l.drop i11 = o11 :: r11) (g12 : l.drop i12 = o12 :: r12)
    (s6 : o6.dst = some d6 ∧ o6.guard = none) (s10 : o10.dst = some d10 ∧ o10.guard = none) (s11 : o11.dst = some d11 ∧ o11.guard = none) (s12 : o12.dst = none ∧ o12.guard = none)
    (p6 : o6.op = .call { callee := .builtin .append, args := #[.tmp d3, .tmp d5], argTypes := #[t, t] })
    (p10 : o10.op = .slice t (.tmp d6) none (some (.tmp kl)) none) (sT : TypeId) (fi : Nat) (p11 : o11.op = .fieldAddr sT (.tmp kp) fi) (p12 : o12.op = .store t (.tmp d11) (.tmp d10))
    {fs : Array Field} {fd : Field} (hus : P.underlying sT = some (.struct fs)) (hfd : fs[fi]? = some fd) (hf1 : (P.info? fd.type).map (·.size) = some 1) (off : Nat) (hoff : fd.offset = off)
    (q6 : Region.ready .any l.toArray L1 = [i6]) (e6 : L1.setIfInBounds i6 true = L2) (q10 : Region.ready .any l.toArray L2 = [i10]) (e10 : L2.setIfInBounds i10 true = L3) (q11 : Region.ready .any l.toArray L3 = [i11]) (e11 : L3.setIfInBounds i11 true = L4) (q12 : Region.ready .any l.toArray L4 = [i12]) (e12 : L4.setIfInBounds i12 true = L5) (qe : Region.ready .any l.toArray L5 = [])
    (hS : ∀ w' ob, w0.grownBy w' ob → (ob = none ∨ ob = some z2) → S w') {T : TypeId} {cs : Array Value} (hcs : w0.heap[z2]? = some (.cells cs T (0, 0))) (hol : off < cs.size)
    {w1 : World} {base : Nat} (hown : w1.ownsRow base e size v1 m news) (hmark : w1.heap[h]? = some (.cells ms e (0, 0))) (hgr : w0.grownBy w1 none) (hbase : base ≤ w1.heap.size) (hnew : ∀ b, v1.ownBlock = some b → w0.heap.size ≤ b)
    (hK : ∀ g cap w3, w3.ownsRow base e size (.slice (some ⟨g, 0, none⟩) (m + k) cap) (m + k) (news ++ ms.toList) → w3.heap[z2]? = some (.cells (cs.setIfInBounds off (.slice (some ⟨g, 0, none⟩) m cap)) T (0, 0)) → w0.grownBy w3 (some z2) → m + k ≤ cap → cap ≤ maxLen → w0.heap.size ≤ g →
      Q .normal (((a.put (some d6) (.slice (some ⟨g, 0, none⟩) (m + k) cap)).put (some d10) (.slice (some ⟨g, 0, none⟩) m cap)).put (some d11) (.pointer (some ⟨z2, off, none⟩))) w3) :
    wpAnyH P .any l.toArray (NoPanic Q) S 4 L1 a w1 := by
  have hzl : z2 < w0.heap.size := (Array.getElem?_eq_some_iff.1 hcs).1
  refine mark_tail0 t e ht hie hz hsize hby hzs hpos ht1 N d3 d5 d6 d10 d11 kl kp hN hlt hnd hkl v1 h m k ms z2 h3 h5 hl hp hms hk news h1m hm hb g6 g10 g11 g12 s6 s10 s11 s12 p6 p10 sT fi p11 p12 hus hfd hf1 off hoff q6 e6 q10 e10 q11 e11 q12 e12 qe ?_ ((hgr.block _ hzl (by simp)).trans hcs) hol (fun e' => by have := hnew _ e'; omega) hown hmark hbase ?_
  · intro w2 w' hg hw
    have hgw2 : w0.grownBy w2 none := grown_trans hgr hg hnew
    rcases hw with rfl | ⟨x, rfl⟩
    · exact hS _ _ hgw2 (.inl rfl)
    · exact hS _ _ (grown_setCell hgw2 ⟨z2, off, none⟩ x) (.inr rfl)
  · intro g cap w2 w3 ho hc hg hw hnc hcm hgz
    subst hw
    have hgw2 : w0.grownBy w2 none := grown_trans hgr hg hnew
    refine hK g cap _ ho hc (grown_setCell hgw2 ⟨z2, off, none⟩ _) hnc hcm ?_
    rcases hgz with e' | e'
    · exact hnew g e'
    · have := hgr.size; omega
/-- a load and a literal of one struct, in either order -/
theorem load_one {fuel : Nat} {l : List Oper} {listed L1 : Array Bool} {i1 i5 : Nat} {o1 o5 : Oper} {r1 r5 : List Oper} {w : World}
    (t e : TypeId) {size : Nat} (ht : P.underlying t = some (.slice e)) (hms1 : (P.info? e).map (·.size) = some size) (hzs1 : ((P.info? e).bind (·.zero)).isSome = true) (hpos : 0 < size) (hsm : size ≤ 2 ^ 24)
    (d1 d5 kq ky : Nat) (hd : d1 ≠ d5) (hkq : kq ≠ d5) (hky : ky ≠ d1) (b off : Nat) (v1 : Value) (ms : Array Value) (hq : a.eval (.tmp kq) = .pointer (some ⟨b, off, none⟩)) (hy : a.eval (.tmp ky) = .agg ms) (hms : ms.size = size)
    (g1 : l.drop i1 = o1 :: r1) (g5 : l.drop i5 = o5 :: r5) (s1 : o1.dst = some d1 ∧ o1.guard = none) (s5 : o5.dst = some d5 ∧ o5.guard = none) (p1 : o1.op = .load t (.tmp kq)) (p5 : o5.op = .buildSlice t 1 #[(0, .tmp ky)])
    (hv : w.cell? ⟨b, off, none⟩ = some v1) (rd1 : Region.ready .any l.toArray listed = [i1, i5]) (rd2 : Region.ready .any l.toArray (listed.setIfInBounds i1 true) = [i5]) (rd3 : Region.ready .any l.toArray (listed.setIfInBounds i5 true) = [i1])
    (e1 : (listed.setIfInBounds i1 true).setIfInBounds i5 true = L1) (e2 : (listed.setIfInBounds i5 true).setIfInBounds i1 true = L1) (hS : S w) (hS2 : S (w.alloc (.cells ms e)))
    (h : wpAnyH P .any l.toArray (NoPanic Q) S fuel L1 ((a.put (some d1) v1).put (some d5) (.slice (some ⟨w.heap.size, 0, none⟩) 1 1)) (w.alloc (.cells ms e))) :
    wpAnyH P .any l.toArray (NoPanic Q) S (fuel + 2) listed a w := by
  have ld : ∀ {K : Act → World → Prop} (a1 : Act) (w1 : World), a1.eval (.tmp kq) = .pointer (some ⟨b, off, none⟩) → w1.cell? ⟨b, off, none⟩ = some v1 → K (a1.put (some d1) v1) w1 → o1.wp P a1 w1 K (NoPanic Q) := by
    intro K a1 w1 he hc hk
    refine Step.w_run v1 w1 ?_ (by rw [s1.1]; exact hk)
    unfold execOp
    simp only [p1, he, Instr.loadAt, Instr.sureAddr, Sem.run_bind, Sem.run_pure, Result.andThen_ok, Step.run_load1 (P := P) t b off ht rfl hc]
  refine Step.t_two g1 g5 (wantedG s1.2) (wantedG s5.2) rd1 ?_ ?_
  · refine ld a w hq hv ⟨hS, ?_⟩
    refine Step.t_one g5 (wantedG s5.2) rd2 (w_oneC t e (.tmp ky) p5 ms hms ((eval_ne a hky v1).trans hy) ht hms1 hzs1 hpos hsm ⟨hS2, ?_⟩)
    rw [s5.1, e1]
    exact h
  · refine w_oneC t e (.tmp ky) p5 ms hms hy ht hms1 hzs1 hpos hsm ⟨hS2, ?_⟩
    rw [s5.1]
    refine Step.t_one g1 (wantedG s1.2) rd3 (ld _ _ ((eval_ne a hkq _).trans hq) ?_ ⟨hS2, ?_⟩)
    · rw [← hv]
      exact World.cell?_of_block (heap_alloc_old w _ (Frame.block_lt hv))
    · rw [e2, put_comm a (fun e' => hd e'.symm)]
      exact h
/-- a copy with a mark behind it is stored into a field -/
theorem copy_tail {l : List Oper} {listed L1 L2 L3 L4 L5 : Array Bool} {i0 i3 i5 i6 i10 i11 i12 : Nat} {o0 o3 o5 o6 o10 o11 o12 : Oper} {r0 r3 r5 r6 r10 r11 r12 : List Oper}
    (t e : TypeId) {size bytes : Nat} {ie : TypeInfo} {zv : Value} (ht : P.underlying t = some (.slice e)) (hie : P.info? e = some ie) (hz : ie.zero = some zv) (hsize : ie.size = size) (hby : ie.bytes = bytes) (hzs : zv.cells.size = size) (hpos : 0 < size) (hsm : size ≤ 2 ^ 24) (ht1 : (P.info? t).map (·.size) = some 1)
    (N d0 d3 d5 d6 d10 d11 kx ky kl kp : Nat) (hN : a.tmps.size = N) (hlt : d11 < N) (hnd : (kp < d0 ∧ d0 < kx ∧ kx < d3) ∧ (d3 < ky ∧ ky < d5 ∧ d5 < d6) ∧ d6 < kl ∧ kl < d10 ∧ d10 < d11)
    (q : Option Addr) (m c : Nat) (ms : Array Value) (z2 : Nat) (hx : a.eval (.tmp kx) = .slice q m c) (hy : a.eval (.tmp ky) = .agg ms) (hms : ms.size = size) (hl : a.eval (.tmp kl) = .int .i64 m) (hp : a.eval (.tmp kp) = .pointer (some ⟨z2, 0, none⟩))
    (news : List Value) (hnl : news.length = m * size) (hq : q = none → m = 0 ∧ c = 0) (hnews : ∀ j u, news[j]? = some u → ∃ g off, q = some ⟨g, off, none⟩ ∧ w0.cell? ⟨g, off + j, none⟩ = some u) (h1 : ∀ u ∈ news, u.oneCell' = true) (h1m : ∀ u ∈ ms.toList, u.oneCell' = true)
    (hm : m + 1 ≤ maxLen) (hb : (m + 1) * bytes ≤ 140737488355328)
    (g0 : l.drop i0 = o0 :: r0) (g3 : l.drop i3 = o3 :: r3) (g5 : l.drop i5 = o5 :: r5) (g6 : l.drop i6 = o6 :: r6) (g10 : l.drop i10 = o10 :: r10) (g11 : l.drop i11 = o11 :: r11) (g12 : l.drop i12 = o12 :: r12)
    (s0 : o0.dst = some d0 ∧ o0.guard = none) (s3 : o3.dst = some d3 ∧ o3.guard = none) (s5 : o5.dst = some d5 ∧ o5.guard = none) (s6 : o6.dst = some d6 ∧ o6.guard = none) (s10 : o10.dst = some d10 ∧ o10.guard = none) (s11 : o11.dst = some d11 ∧ o11.guard = none) (s12 : o12.dst = none ∧ o12.guard = none)
    (p0 : o0.op = .buildSlice t 0 #[]) (p3 : o3.op = .call { callee := .builtin .append, args := #[.tmp d0, .tmp kx], argTypes := #[t, t] }) (p5 : o5.op = .buildSlice t 1 #[(0, .tmp ky)]) (p6 : o6.op = .call { callee := .builtin .append, args := #[.tmp d3, .tmp d5], argTypes := #[t, t] })
    (p10 : o10.op = .slice t (.tmp d6) none (some (.tmp kl)) none) (sT : TypeId) (fi : Nat) (p11 : o11.op = .fieldAddr sT (.tmp kp) fi) (p12 : o12.op = .store t (.tmp d11) (.tmp d10))
    {fs : Array Field} {fd : Field} (hus : P.underlying sT = some (.struct fs)) (hfd : fs[fi]? = some fd) (hf1 : (P.info? fd.type).map (·.size) = some 1) (off : Nat) (hoff : fd.offset = off)
    (rd1 : Region.ready .any l.toArray listed = [i0, i5]) (rd2 : Region.ready .any l.toArray (listed.setIfInBounds i0 true) = [i3, i5]) (rd3 : Region.ready .any l.toArray (listed.setIfInBounds i5 true) = [i0])
    (rd4 : Region.ready .any l.toArray ((listed.setIfInBounds i0 true).setIfInBounds i3 true) = [i5]) (rd5 : Region.ready .any l.toArray ((listed.setIfInBounds i0 true).setIfInBounds i5 true) = [i3]) (rd6 : Region.ready .any l.toArray ((listed.setIfInBounds i5 true).setIfInBounds i0 true) = [i3])
    (e1 : ((listed.setIfInBounds i0 true).setIfInBounds i3 true).setIfInBounds i5 true = L1) (e2 : ((listed.setIfInBounds i0 true).setIfInBounds i5 true).setIfInBounds i3 true = L1) (e3 : ((listed.setIfInBounds i5 true).setIfInBounds i0 true).setIfInBounds i3 true = L1)
    (q6 : Region.ready .any l.toArray L1 = [i6]) (e6 : L1.setIfInBounds i6 true = L2) (q10 : Region.ready .any l.toArray L2 = [i10]) (e10 : L2.setIfInBounds i10 true = L3) (q11 : Region.ready .any l.toArray L3 = [i11]) (e11 : L3.setIfInBounds i11 true = L4) (q12 : Region.ready .any l.toArray L4 = [i12]) (e12 : L4.setIfInBounds i12 true = L5) (qe : Region.ready .any l.toArray L5 = [])
    (hS : ∀ w' ob, w0.grownBy w' ob → (ob = none ∨ ob = some z2) → S w') {T : TypeId} {cs : Array Value} (hcs : w0.heap[z2]? = some (.cells cs T (0, 0))) (hol : off < cs.size)
    (hK : ∀ g cap v0 v3 v5 w3, w3.ownsRow w0.heap.size e size (.slice (some ⟨g, 0, none⟩) (m + 1) cap) (m + 1) (news ++ ms.toList) → w3.heap[z2]? = some (.cells (cs.setIfInBounds off (.slice (some ⟨g, 0, none⟩) m cap)) T (0, 0)) → w0.grownBy w3 (some z2) → m + 1 ≤ cap → cap ≤ maxLen → w0.heap.size ≤ g →
      Q .normal ((((((a.put (some d0) v0).put (some d3) v3).put (some d5) v5).put (some d6) (.slice (some ⟨g, 0, none⟩) (m + 1) cap)).put (some d10) (.slice (some ⟨g, 0, none⟩) m cap)).put (some d11) (.pointer (some ⟨z2, off, none⟩))) w3) :
    wpAnyH P .any l.toArray (NoPanic Q) S 7 listed a w0 := by
  obtain ⟨⟨u1, u2, u3⟩, ⟨u4, u5, u6⟩, u7, u8, u9⟩ := hnd
  -- what follows the two literals and the first append
  have cont : ∀ v0 v1 h w1, w1.ownsRow w0.heap.size e size v1 m news → w1.heap[h]? = some (.cells ms e (0, 0)) → w0.grownBy w1 none →
      wpAnyH P .any l.toArray (NoPanic Q) S 4 L1 (((a.put (some d0) v0).put (some d3) v1).put (some d5) (.slice (some ⟨h, 0, none⟩) 1 1)) w1 := by
    intro v0 v1 h w1 hown hmark hgr
    refine mark_tail t e ht hie hz hsize hby hzs hpos ht1 N d3 d5 d6 d10 d11 kl kp (by rw [size_put, size_put, size_put, hN]) hlt ⟨⟨by omega, by omega⟩, by omega, by omega, by omega⟩ (by omega) v1 h m 1 ms z2 ?_ ?_ ?_ ?_ (by rw [hms, Nat.one_mul]) (by decide) news h1m hm hb g6 g10 g11 g12 s6 s10 s11 s12 p6 p10 sT fi p11 p12 hus hfd hf1 off hoff q6 e6 q10 e10 q11 e11 q12 e12 qe hS hcs hol hown hmark hgr hgr.size (fun b hb => (Step.own_lt hown hb).1) (fun g cap w3 => hK g cap v0 v1 _ w3)
    · rw [eval_ne _ (by omega), eval_eq _ (by rw [size_put, hN]; omega)]
    · rw [eval_eq _ (by rw [size_put, size_put, hN]; omega)]
    · rw [eval_ne _ (by omega), eval_ne _ (by omega), eval_ne _ (by omega), hl]
    · rw [eval_ne _ (by omega), eval_ne _ (by omega), eval_ne _ (by omega), hp]
  have hms1 : (P.info? e).map (·.size) = some size := by rw [hie, Option.map_some, hsize]
  have hzs1 : ((P.info? e).bind (·.zero)).isSome = true := by rw [hie, Option.bind_some, hz]; rfl
  -- the append of the list, in whatever world it comes
  have app : ∀ {K : Act → World → Prop} (a1 : Act) (w1 : World) (v0 : Value), a1.eval (.tmp d0) = v0 → a1.eval (.tmp kx) = .slice q m c → w1.ownsRow w0.heap.size e size v0 0 [] → w0.grownBy w1 none →
      (∀ v1 w2, w2.ownsRow w0.heap.size e size v1 m news → w0.grownBy w2 none → (∀ h, h < w1.heap.size → v0.ownBlock ≠ some h → w2.heap[h]? = w1.heap[h]?) → K (a1.put (some d3) v1) w2) → o3.wp P a1 w1 K (NoPanic Q) := by
    intro K a1 w1 v0 ev0 evx ho hg hk
    obtain ⟨v', w', hr, h2, h3, _⟩ := App.run_append_src (P := P) w1 w0.heap.size t o3.type e ie zv size bytes ht hie hz hsize hby hzs hpos v0 0 [] ho q m c news hnl hq (fun j u hj => by
      obtain ⟨g, off, e', hc⟩ := hnews j u hj
      refine ⟨g, off, e', ?_⟩
      rw [← hc]
      exact World.cell?_of_block (hg.block g (Frame.block_lt hc) (by simp))) h1 (by omega) (by rw [Nat.zero_add]; exact Nat.le_trans (Nat.mul_le_mul_right _ (Nat.le_succ m)) hb) hg.size
    rw [Nat.zero_add, List.nil_append] at h2
    refine Step.w_run v' w' ?_ ?_
    · unfold execOp
      simp only [p3, resolve, invoke, builtin, Sem.run_bind, Sem.run_pure, Result.andThen_ok, List.map_toArray, List.map_cons, List.map_nil, ev0, evx, hr]
    · rw [s3.1]
      exact hk v' w' h2 (grown_trans hg h3 fun b hb => (Step.own_lt ho hb).1) fun h hh hne => h3.block h hh (fun e' => hne e'.symm)
  have own0 : ∀ (w1 : World), w0.heap.size ≤ w1.heap.size → (w1.alloc (.cells #[] e)).ownsRow w0.heap.size e size (.slice (some ⟨w1.heap.size, 0, none⟩) 0 0) 0 [] := fun w1 h => by
    have := World.ownsRow_lit (base := w0.heap.size) (e := e) (size := size) w1 #[] 0 h (Nat.zero_le _) (by simp)
    simpa using this
  have galloc : ∀ (w1 : World) (x : Obj), w0.grownBy w1 none → w0.grownBy (w1.alloc x) none := fun w1 x h => grown_trans h (World.grownBy_alloc w1 x none) (by simp)
  have L := size_put
  refine Step.t_two g0 g5 (wantedG s0.2) (wantedG s5.2) rd1 ?_ ?_
  · -- the empty list first
    refine w_empty t e p0 ht hie ?_
    have G1 := galloc w0 (.cells #[] e) (grown_refl w0)
    refine ⟨hS _ _ G1 (.inl rfl), ?_⟩
    rw [s0.1]
    refine Step.t_two g3 g5 (wantedG s3.2) (wantedG s5.2) rd2 ?_ ?_
    · refine app _ _ _ (eval_eq a (by rw [hN]; omega) _) ((eval_ne a (by omega) _).trans hx) (own0 w0 (Nat.le_refl _)) G1 ?_
      intro v1 w2 ho hg _
      refine ⟨hS _ _ hg (.inl rfl), Step.t_one g5 (wantedG s5.2) rd4 ?_⟩
      refine w_oneC t e (.tmp ky) p5 ms hms (by rw [eval_ne _ (by omega), eval_ne _ (by omega), hy]) ht hms1 hzs1 hpos hsm ?_
      refine ⟨hS _ _ (galloc _ _ hg) (.inl rfl), ?_⟩
      rw [e1, s5.1]
      exact cont _ _ _ _ (ho.alloc _) (heap_alloc_new w2 _) (galloc _ _ hg)
    · refine w_oneC t e (.tmp ky) p5 ms hms (by rw [eval_ne _ (by omega), hy]) ht hms1 hzs1 hpos hsm ?_
      refine ⟨hS _ _ (galloc _ _ G1) (.inl rfl), Step.t_one g3 (wantedG s3.2) rd5 ?_⟩
      rw [s5.1]
      refine app _ _ _ (by rw [eval_ne _ (by omega), eval_eq _ (by rw [hN]; omega)]) (by rw [eval_ne _ (by omega), eval_ne _ (by omega), hx]) ((own0 w0 (Nat.le_refl _)).alloc _) (galloc _ _ G1) ?_
      intro v1 w2 ho hg hkeep
      refine ⟨hS _ _ hg (.inl rfl), ?_⟩
      rw [e2, put_comm _ (by omega)]
      refine cont _ _ _ _ ho ?_ hg
      rw [hkeep _ (by simp) (by simp [Value.ownBlock])]
      exact heap_alloc_new (w0.alloc (.cells #[] e)) _
  · refine w_oneC t e (.tmp ky) p5 ms hms hy ht hms1 hzs1 hpos hsm ?_
    have G1 := galloc w0 (.cells ms e) (grown_refl w0)
    refine ⟨hS _ _ G1 (.inl rfl), Step.t_one g0 (wantedG s0.2) rd3 ?_⟩
    rw [s5.1]
    refine w_empty t e p0 ht hie ?_
    refine ⟨hS _ _ (galloc _ _ G1) (.inl rfl), Step.t_one g3 (wantedG s3.2) rd6 ?_⟩
    rw [s0.1]
    refine app _ _ _ (eval_eq _ (by rw [size_put, hN]; omega) _) (by rw [eval_ne _ (by omega), eval_ne _ (by omega), hx]) (own0 _ (by simp)) (galloc _ _ G1) ?_
    intro v1 w2 ho hg hkeep
    refine ⟨hS _ _ hg (.inl rfl), ?_⟩
    rw [e3, put_comm a (by omega), put_comm _ (by omega)]
    refine cont _ _ _ _ ho ?_ hg
    rw [hkeep _ (by simp; omega) (by simp [Value.ownBlock]), heap_alloc_old _ _ (by simp)]
    exact heap_alloc_new w0 _
end
/-! plain regions, operation by operation -/
section
variable {P : Program} {ops : Array Oper} {Q : Exit → Act → World → Prop} {a : Act} {w : World} {o : Oper} {rest : List Oper} (hg : Region.wanted o (yielded ops a.tmps) = true)
include hg
theorem p_field (s : TypeId) (x : Operand) (f : Nat) (ho : o.op = .fieldAddr s x f) (b off : Nat) (hx : a.eval x = .pointer (some ⟨b, off, none⟩)) {fs : Array Field} {fd : Field} (hu : P.underlying s = some (.struct fs)) (hfd : fs[f]? = some fd) {sz : Nat} (hi' : (P.info? fd.type).map (·.size) = some sz) (hsz : sz ≠ 0) (off2 : Nat) (ho2 : off + fd.offset = off2)
    (h : wpList P ops Q rest (a.put o.dst (.pointer (some ⟨b, off2, none⟩))) w) : wpList P ops Q (o :: rest) a w :=
  Step.p_val hg _ (by
    subst ho2
    unfold execOp
    simp only [ho, hx, Sem.run_bind, Step.run_field0 s b off f hu hfd hi' hsz, Result.andThen_ok, Sem.run_pure]) h
theorem p_load1 (ty : TypeId) (x : Operand) (ho : o.op = .load ty x) (b off : Nat) (hx : a.eval x = .pointer (some ⟨b, off, none⟩)) {d : TypeDesc} (v : Value) (hA : w.cell? ⟨b, off, none⟩ = some v) (hu : P.underlying ty = some d) (hd : Step.oneD d = true)
    (h : wpList P ops Q rest (a.put o.dst v) w) : wpList P ops Q (o :: rest) a w :=
  Step.p_val hg v (by
    unfold execOp
    simp only [ho, hx, Instr.loadAt, Instr.sureAddr, Sem.run_bind, Sem.run_pure, Result.andThen_ok, Step.run_load1 ty b off hu hd hA]) h
theorem p_loadrow (ty : TypeId) (x : Operand) (ho : o.op = .load ty x) (b : Nat) (hx : a.eval x = .pointer (some ⟨b, 0, none⟩))
    {t : TypeId} {cs : Array Value} {d : TypeDesc} (hA : w.heap[b]? = some (.cells cs t (0, 0))) (hu : P.underlying ty = some d) (hd : (match d with | .struct _ | .array _ _ => true | _ => false) = true)
    (hi : (P.info? ty).map (·.size) = some cs.size) (h : wpList P ops Q rest (a.put o.dst (.agg cs)) w) : wpList P ops Q (o :: rest) a w :=
  Step.p_val hg _ (by
    unfold execOp
    simp only [ho, hx, Instr.loadAt, Instr.sureAddr, Sem.run_bind, Sem.run_pure, Result.andThen_ok, run_loadVar_row w b t ty _ _ d hA hu hd hi]) h
/-- a struct out of the middle of a block -/
theorem p_loadmid (ty : TypeId) (x : Operand) (ho : o.op = .load ty x) (b off : Nat) (hx : a.eval x = .pointer (some ⟨b, off, none⟩))
    (cs : List Value) {d : TypeDesc} (hA : w.rangeAt b off cs) (hu : P.underlying ty = some d) (hd : d.isRow = true)
    (hi' : (P.info? ty).map (·.size) = some cs.length) (h : wpList P ops Q rest (a.put o.dst (.agg cs.toArray)) w) : wpList P ops Q (o :: rest) a w :=
  Step.p_wp hg (wp_load_mid ty x ho b off hx cs d hA hu hd hi' h)
/-- a new variable -/
theorem p_new (ty : TypeId) (ho : o.op = .alloc ty) {z : Value} (hz : (P.info? ty).bind (·.zero) = some z) (h : wpList P ops Q rest (a.put o.dst (.pointer (some ⟨w.heap.size, 0, none⟩))) (w.alloc (.cells z.cells ty))) : wpList P ops Q (o :: rest) a w := by
  cases hie : P.info? ty with
  | none => simp [hie] at hz
  | some ie =>
    simp only [hie, Option.bind_some] at hz
    refine Step.p_wp hg (Step.w_run _ _ (by
      unfold execOp
      have h0 : (zeroValue ty).run P w = .ok z w := by simp [zeroValue, typeInfo, hie, hz]
      simp [ho, Instr.alloc, newVar, newRow, go_sem, h0]) h)
theorem p_len' (x : Operand) (t e : TypeId) (ho : o.op = .call { callee := .builtin .len, args := #[x], argTypes := #[t] }) (q : Option Addr) (n c : Nat) (hx : a.eval x = .slice q n c) (hu : P.underlying t = some (.slice e))
    (h : wpList P ops Q rest (a.put o.dst (.int .i64 n)) w) : wpList P ops Q (o :: rest) a w := Step.p_len hg x t e ho q n c hx hu h
omit hg in
/-- a slice is stored into a block of which the cells are known -/
theorem p_store1 (hgd : o.guard = none) (t : TypeId) (x y : Operand) (ho : o.op = .store t x y) (b off : Nat) (hx : a.eval x = .pointer (some ⟨b, off, none⟩)) (q : Option Addr) (n c : Nat) (hy : a.eval y = .slice q n c) (hi : (P.info? t).map (·.size) = some 1) {T : TypeId} {cs : Array Value} (hb : w.heap[b]? = some (.cells cs T (0, 0))) (hol : off < cs.size)
    (h : wpList P ops Q rest (a.put o.dst undef) (w.setCell ⟨b, off, none⟩ (.slice q n c))) : wpList P ops Q (o :: rest) a w :=
  wpList_plain hgd fun K hK => w_skip (by
    unfold execOp
    simp only [ho, hx, hy, Sem.run_bind, run_store1 t hi w b off q n c hb hol, Result.andThen_ok, Sem.run_pure]) (hK _ _ h)
theorem p_empty (t e : TypeId) (ho : o.op = .buildSlice t 0 #[]) (hu : P.underlying t = some (.slice e)) {ie : TypeInfo} (hi : P.info? e = some ie)
    (h : wpList P ops Q rest (a.put o.dst (.slice (some ⟨w.heap.size, 0, none⟩) 0 0)) (w.alloc (.cells #[] e))) : wpList P ops Q (o :: rest) a w :=
  Step.p_wp hg (w_empty t e ho hu hi h)
theorem p_one (t e : TypeId) (x : Operand) (ho : o.op = .buildSlice t 1 #[(0, x)]) (cs : Array Value) {n : Nat} (hcs : cs.size = n)
    (hx : a.eval x = .agg cs) (hu : P.underlying t = some (.slice e)) (hi : (P.info? e).map (·.size) = some n) (hz : ((P.info? e).bind (·.zero)).isSome = true) (hn : 0 < n) (hn2 : n ≤ 2 ^ 24)
    (h : wpList P ops Q rest (a.put o.dst (.slice (some ⟨w.heap.size, 0, none⟩) 1 1)) (w.alloc (.cells cs e))) : wpList P ops Q (o :: rest) a w :=
  Step.p_wp hg (w_oneC t e x ho cs hcs hx hu hi hz hn hn2 h)
theorem p_cut (t e : TypeId) (x y : Operand) (ho : o.op = .slice t x none (some y) none) (ht : P.underlying t = some (.slice e)) {ie : TypeInfo} (hie : P.info? e = some ie) (g n cap m : Nat) (hm : m ≤ cap) (hx : a.eval x = .slice (some ⟨g, 0, none⟩) n cap) (hy : a.eval y = .int .i64 m)
    (h : wpList P ops Q rest (a.put o.dst (.slice (some ⟨g, 0, none⟩) m cap)) w) : wpList P ops Q (o :: rest) a w :=
  Step.p_val hg _ (by
    unfold execOp
    simp only [ho, Option.map_none, Option.map_some, hx, hy, Sem.run_bind, run_cut t e ht hie w g n cap m hm, Result.andThen_ok, Sem.run_pure]) h
end
end Go.Proofs.YtcgjhjijfhgclaaGreatDoor.Tree
