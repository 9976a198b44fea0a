/- Steps of a walk, one law each: q_* in a region that draws its order and only reads (over a class of worlds), t_* and w_* in one that writes, p_* in a plain one. General lemmas. -/
import Derived.Test.YtojnfhmmglbmkaaDoorBase
import Derived.StillTail
import Derived.OrdersHeld
import Derived.Deep.RegionHeld3
import Derived.Great.BuildSlice
import Derived.Laws.StructEq
namespace Go.Proofs.YtojnfhmmglbmkaaDoor.Step
open Go.RowKit Go.Lib Go.Proofs.YtojnfhmmglbmkaaDoor.Blk

/-! one operation of a quiet walk -/
section
variable {P : Program} {ops : Array Oper} {C : World → Prop} {Q : Act → Prop} {o : Oper} {rest : List Oper} {a : Act}
theorem q_val (hg : Region.wanted o (yielded ops a.tmps) = true) (v : Value) (hy : ∀ w, C w → o.quietAt P a C w v) (h : wpQuiet P ops C Q rest (a.put o.dst v)) : wpQuiet P ops C Q (o :: rest) a := by
  unfold wpQuiet
  rw [if_pos hg]
  exact ⟨v, hy, h⟩
theorem q_load (hg : Region.wanted o (yielded ops a.tmps) = true) (ty : TypeId) (x : Operand) (ho : o.op = .load ty x) (b : Nat) (hx : a.eval x = .pointer (some ⟨b, 0, none⟩))
    {k : IntKind} {n : Nat} {t : TypeId} {f : Nat → Int} {d : TypeDesc} (hA : ∀ w, C w → Arr w b k n t f) (hu : P.underlying ty = some d) (hd : (match d with | .struct _ | .array _ _ => true | _ => false) = true)
    (hi : (P.info? ty).map (·.size) = some n) (h : wpQuiet P ops C Q rest (a.put o.dst (.agg (arr k n f)))) : wpQuiet P ops C Q (o :: rest) a :=
  q_val hg _ (fun w hw => by
    unfold Oper.quietAt execOp
    simp only [ho, hx, Instr.loadAt, Instr.sureAddr, Sem.run_bind, Sem.run_pure, Result.andThen_ok, run_loadVar_row w b t ty _ _ d (hA w hw) hu hd (by rw [arr_size]; exact hi)]
    exact ⟨rfl, rfl⟩) h
theorem q_pure (hg : Region.wanted o (yielded ops a.tmps) = true) (v : Value) (hy : ∀ w, (execOp a.eval o).run P w = .ok (.value v) w) (h : wpQuiet P ops C Q rest (a.put o.dst v)) : wpQuiet P ops C Q (o :: rest) a :=
  q_val hg v (fun w _ => by unfold Oper.quietAt; rw [hy]; exact ⟨rfl, rfl⟩) h
theorem q_move (hg : Region.wanted o (yielded ops a.tmps) = true) (x : Operand) (ho : o.op = .move x) (v : Value) (hv : a.eval x = v) (h : wpQuiet P ops C Q rest (a.put o.dst v)) : wpQuiet P ops C Q (o :: rest) a :=
  q_pure hg v (fun w => by unfold execOp; rw [ho]; simp [hv]) h
theorem q_pick (hg : Region.wanted o (yielded ops a.tmps) = true) (c x y : Operand) (ho : o.op = .pick c x y) (b : Bool) (hc : a.eval c = .bool b) (v : Value) (hv : (if b then a.eval x else a.eval y) = v) (h : wpQuiet P ops C Q rest (a.put o.dst v)) : wpQuiet P ops C Q (o :: rest) a :=
  q_pure hg v (fun w => by unfold execOp; rw [ho]; simp only [hc]; cases b <;> simp_all [asBool]) h
theorem q_skip (hg : Region.wanted o (yielded ops a.tmps) = false) (h : wpQuiet P ops C Q rest (a.put o.dst undef)) : wpQuiet P ops C Q (o :: rest) a :=
  BigFrame.wpQuiet_skip hg h
theorem q_assign (hg : Region.wanted o (yielded ops a.tmps) = true) (x : Operand) (ho : o.op = .assign x) (v : Value) (hv : a.eval x = v) (h : wpQuiet P ops C Q rest (a.put o.dst v)) : wpQuiet P ops C Q (o :: rest) a :=
  q_pure hg v (fun w => by unfold execOp; rw [ho]; simp [hv]) h
/-- a literal of a struct or an array -/
theorem q_build (hg : Region.wanted o (yielded ops a.tmps) = true) (t : TypeId) (ps : List (Nat × Operand)) (ho : o.op = .build t ps.toArray) (v : Value) (vs : List (Nat × Value)) (hvs : ps.map (fun (i, x) => (i, a.eval x)) = vs)
    (hb : ∀ w, (Instr.build t vs.toArray).run P w = .ok v w) (h : wpQuiet P ops C Q rest (a.put o.dst v)) : wpQuiet P ops C Q (o :: rest) a :=
  q_pure hg v (fun w => by
    unfold execOp; rw [ho]
    have e := hb w
    rw [← hvs] at e
    simp only [List.map_toArray, Sem.run_bind, e, Result.andThen_ok, Sem.run_pure]) h
theorem ne_false {m n : Nat} (h : m = n) : (!(m == n)) = false := by subst h; simp
theorem eq_true {m n : Nat} (h : m = n) : (m == n) = true := by subst h; simp
/-- a region that draws its order, its operations a list -/
theorem wp_region_class {id : Nat} {Q : Exit → Act → World → Prop} {a : Act} {w : World} {l : List Oper} (hm : P.follows .mixedOrders = true) (hB : Region.lexB .any l.toArray = true) (hC : C w.drew)
    (h : wpQuiet P l.toArray C (fun a' => ∀ w', C w' → Q .normal a' w') l a) : (Code.region id l.toArray true).wp P Q a w :=
  wp_region_quiet (C := C) hm hB hC (by simpa using h)
/-- a call of a function of the program -/
theorem q_call (hg : Region.wanted o (yielded ops a.tmps) = true) (f : FuncId) (args : List Operand) (ts : Array TypeId) (ho : o.op = .call { callee := .value (.func f), args := args.toArray, argTypes := ts })
    {fn : Func} (hf : P.funcs[f]? = some fn) (hn : (fn.name == "runtime.NumGoroutine") = false) (hb : fn.body.isNone = false) (v : Value) (vs : List Value) (hvs : args.map a.eval = vs)
    (hc : ∀ w, C w → Calls P f vs.toArray w fun e w' => e = .returned v ∧ C w') (h : wpQuiet P ops C Q rest (a.put o.dst v)) : wpQuiet P ops C Q (o :: rest) a :=
  q_val hg v (fun w hw => by
    unfold Oper.quietAt execOp
    rw [ho]
    simp only [resolve, Act.eval, Deferred.ofValue, Sem.run_bind, Sem.run_pure, Result.andThen_ok, invoke, Array.append_empty, Array.empty_append, callFunc, run_program, hf, hn, hb, Bool.false_eq_true, if_false]
    rw [List.map_toArray, show (args.map a.eval) = vs from hvs]
    exact ⟨rfl, hc w hw⟩) h
end
section
variable {P : Program} {ops : Array Oper} {Q : Exit → Act → World → Prop} {S : World → Prop} {a : Act} {w : World} {fuel : Nat} {listed : Array Bool}

/-- the beginning -/
theorem begin_ {id : Nat} {l : List Oper} (n : Nat) (hn : l.length = n) (hm : P.follows .mixedOrders = true) (hS : S w.drew)
    (h : S w.drew → wpAnyH P .any l.toArray (NoPanic Q) S n (Array.replicate n false) a w.drew) : (Code.region id l.toArray true).wp P Q a w := by
  subst hn
  refine wp_region_noPanic (wp_region_held (S := S) hm ?_)
  have := h hS
  simpa using this

theorem drop_get {l tl : List Oper} {i : Nat} {o : Oper} (h : l.drop i = o :: tl) : l.toArray[i]? = some o := by
  have := congrArg (fun x => x[0]?) h
  simpa using this
section
variable {i : Nat} {o : Oper} {tl l : List Oper} (hi : l.drop i = o :: tl) (hg : Region.wanted o (yielded l.toArray a.tmps) = true) (hs : Region.noSelect l.toArray = true) (hf : Region.free .any l.toArray listed i = true) (hr : (Region.ready .any l.toArray listed).contains i = true) (hS : S w)
include hi hg hs hf hr hS
/-- a value that is the same in every such world -/
theorem t_val (v : Value) (hv : ∀ w, S w → (execOp a.eval o).run P w = .ok (.value v) w)
    (h : wpAnyH P .any l.toArray (NoPanic Q) S fuel (listed.setIfInBounds i true) (a.put o.dst v) w) : wpAnyH P .any l.toArray (NoPanic Q) S (fuel + 1) listed a w :=
  wpAnyH_take (drop_get hi) hs hf hr (fun _ _ _ h => h) (.inl ⟨hg, hv⟩) hS h
theorem t_move (x : Operand) (ho : o.op = .move x) (v : Value) (hv : a.eval x = v)
    (h : wpAnyH P .any l.toArray (NoPanic Q) S fuel (listed.setIfInBounds i true) (a.put o.dst v) w) : wpAnyH P .any l.toArray (NoPanic Q) S (fuel + 1) listed a w :=
  t_val hi hg hs hf hr hS v (fun w _ => by unfold execOp; rw [ho]; simp [hv]) h
theorem t_assign (x : Operand) (ho : o.op = .assign x) (v : Value) (hv : a.eval x = v)
    (h : wpAnyH P .any l.toArray (NoPanic Q) S fuel (listed.setIfInBounds i true) (a.put o.dst v) w) : wpAnyH P .any l.toArray (NoPanic Q) S (fuel + 1) listed a w :=
  t_val hi hg hs hf hr hS v (fun w _ => by unfold execOp; rw [ho]; simp [hv]) h
theorem t_load (ty : TypeId) (x : Operand) (ho : o.op = .load ty x) (b : Nat) (hx : a.eval x = .pointer (some ⟨b, 0, none⟩))
    {k : IntKind} {n : Nat} {t : TypeId} {f : Nat → Int} {d : TypeDesc} (hA : ∀ w, S w → Arr w b k n t f) (hu : P.underlying ty = some d) (hd : (match d with | .struct _ | .array _ _ => true | _ => false) = true)
    (hi' : (P.info? ty).map (·.size) = some n)
    (h : wpAnyH P .any l.toArray (NoPanic Q) S fuel (listed.setIfInBounds i true) (a.put o.dst (.agg (arr k n f))) w) : wpAnyH P .any l.toArray (NoPanic Q) S (fuel + 1) listed a w :=
  t_val hi hg hs hf hr hS _ (fun w hw => by
    unfold execOp
    simp only [ho, hx, Instr.loadAt, Instr.sureAddr, Sem.run_bind, Sem.run_pure, Result.andThen_ok, run_loadVar_row w b t ty _ _ d (hA w hw) hu hd (by rw [arr_size]; exact hi')]) h
theorem t_load_mid (ty : TypeId) (x : Operand) (ho : o.op = .load ty x) (b off : Nat) (hx : a.eval x = .pointer (some ⟨b, off, none⟩))
    {k : IntKind} {n : Nat} {f : Nat → Int} {d : TypeDesc} (hA : ∀ w, S w → w.rangeAt b off (arr k n f).toList) (hu : P.underlying ty = some d) (hd : d.isRow = true)
    (hi' : (P.info? ty).map (·.size) = some n)
    (h : wpAnyH P .any l.toArray (NoPanic Q) S fuel (listed.setIfInBounds i true) (a.put o.dst (.agg (arr k n f))) w) : wpAnyH P .any l.toArray (NoPanic Q) S (fuel + 1) listed a w :=
  wpAnyH_take (drop_get hi) hs hf hr (fun _ _ _ h => h) (by
    have := yieldsIf_load_mid (P := P) (ops := l.toArray) (S := S) hg ty x ho b off hx (arr k n f).toList d hA hu hd (by rw [Array.length_toList, arr_size]; exact hi')
    simpa using this) hS h
/-- an element's address -/
theorem t_index (t e : TypeId) (x ix : Operand) (ho : o.op = .indexAddr t x ix) (b off : Nat) (len cap : Nat) (hx : a.eval x = .slice (some ⟨b, off, none⟩) len cap) (j : Nat) (hj : a.eval ix = .int .i64 j) (hlt : j < len) (size : Nat)
    (hu : P.underlying t = some (.slice e)) (hi' : (P.info? e).map (·.size) = some size)
    (h : wpAnyH P .any l.toArray (NoPanic Q) S fuel (listed.setIfInBounds i true) (a.put o.dst (.pointer (some ⟨b, off + j * size, none⟩))) w) : wpAnyH P .any l.toArray (NoPanic Q) S (fuel + 1) listed a w :=
  t_val hi hg hs hf hr hS _ (fun w _ => by
    unfold execOp
    cases hie : P.info? e with
    | none => simp [hie] at hi'
    | some ie =>
      simp only [hie, Option.map_some, Option.some.injEq] at hi'
      subst hi'
      have h1 : (0 : Int) ≤ j ∧ (j : Int) < len := by omega
      simp [ho, hx, hj, Instr.indexAt, asIntOf, run_underlying hu, sizeOf, typeInfo, hie, h1, hlt, Addr.add_mid]) h
end

/-- the one operation that may come up -/
theorem t_one {i : Nat} {o : Oper} {tl l : List Oper} (hi : l.drop i = o :: tl) (hg : Region.wanted o (yielded l.toArray a.tmps) = true) (hr : Region.ready .any l.toArray listed = [i])
    (h : o.wp P a w (fun a' w' => S w' ∧ wpAnyH P .any l.toArray (NoPanic Q) S fuel (listed.setIfInBounds i true) a' w') (NoPanic Q)) : wpAnyH P .any l.toArray (NoPanic Q) S (fuel + 1) listed a w :=
  wpAnyH_all hr (by simp) fun j hj => by
    obtain rfl : j = i := by simpa using hj
    unfold wpOp
    simp only [drop_get hi]
    rw [if_pos hg]
    exact .inl h
/-- one of two operations comes up -/
theorem t_two {i j : Nat} {o o2 : Oper} {tl tl2 l : List Oper} (hi : l.drop i = o :: tl) (hj : l.drop j = o2 :: tl2) (hg : Region.wanted o (yielded l.toArray a.tmps) = true) (hg2 : Region.wanted o2 (yielded l.toArray a.tmps) = true) (hr : Region.ready .any l.toArray listed = [i, j])
    (h : o.wp P a w (fun a' w' => S w' ∧ wpAnyH P .any l.toArray (NoPanic Q) S fuel (listed.setIfInBounds i true) a' w') (NoPanic Q))
    (h2 : o2.wp P a w (fun a' w' => S w' ∧ wpAnyH P .any l.toArray (NoPanic Q) S fuel (listed.setIfInBounds j true) a' w') (NoPanic Q)) : wpAnyH P .any l.toArray (NoPanic Q) S (fuel + 1) listed a w :=
  wpAnyH_all hr (by simp) fun k hk => by
    rcases List.mem_cons.1 hk with rfl | hk
    · unfold wpOp
      simp only [drop_get hi]
      rw [if_pos hg]
      exact .inl h
    · obtain rfl : k = j := by simpa using hk
      unfold wpOp
      simp only [drop_get hj]
      rw [if_pos hg2]
      exact .inl h2
theorem t_end (hr : Region.ready .any ops listed = []) (h : Q .normal a w) : wpAnyH P .any ops (NoPanic Q) S fuel listed a w := wpAnyH_done (Q := NoPanic Q) hr (NoPanic.normal h) fuel
end

section
variable {P : Program} {o : Oper} {a : Act} {w : World} {K : Act → World → Prop} {Q : Exit → Act → World → Prop}
/-- a call of a function of the program -/
theorem w_call (f : FuncId) (args : List Operand) (ts : Array TypeId) (ho : o.op = .call { callee := .value (.func f), args := args.toArray, argTypes := ts })
    {fn : Func} (hf : P.funcs[f]? = some fn) (hn : (fn.name == "runtime.NumGoroutine") = false) (hb : fn.body.isNone = false) (vs : List Value) (hvs : args.map a.eval = vs) {v : Value} {R : World → Prop}
    (hc : Calls P f vs.toArray w fun e w' => e = .returned v ∧ R w') (h : ∀ w', R w' → K (a.put o.dst v) w') : o.wp P a w K Q := by
  unfold Oper.wp execOp
  rw [ho]
  simp only [resolve, Act.eval, Deferred.ofValue, Sem.run_bind, Sem.run_pure, Result.andThen_ok, invoke, Array.append_empty, Array.empty_append, callFunc, run_program, hf, hn, hb, Bool.false_eq_true, if_false]
  rw [List.map_toArray, show (args.map a.eval) = vs from hvs]
  exact hc.mono fun e w' ⟨he, hw⟩ => by subst he; exact h w' hw
/-- a call whose value is told by what holds behind it -/
theorem w_callx (f : FuncId) (args : List Operand) (ts : Array TypeId) (ho : o.op = .call { callee := .value (.func f), args := args.toArray, argTypes := ts })
    {fn : Func} (hf : P.funcs[f]? = some fn) (hn : (fn.name == "runtime.NumGoroutine") = false) (hb : fn.body.isNone = false) (vs : List Value) (hvs : args.map a.eval = vs) {R : Ending → World → Prop}
    (hc : Calls P f vs.toArray w R) (h : ∀ e w', R e w' → ∃ v, e = .returned v ∧ K (a.put o.dst v) w') : o.wp P a w K Q := by
  unfold Oper.wp execOp
  rw [ho]
  simp only [resolve, Act.eval, Deferred.ofValue, Sem.run_bind, Sem.run_pure, Result.andThen_ok, invoke, Array.append_empty, Array.empty_append, callFunc, run_program, hf, hn, hb, Bool.false_eq_true, if_false]
  rw [List.map_toArray, show (args.map a.eval) = vs from hvs]
  exact hc.mono fun e w' hr => by
    obtain ⟨v, rfl, hk⟩ := h e w' hr
    exact hk
/-- a value, and a world -/
theorem w_run (v : Value) (w' : World) (hr : (execOp a.eval o).run P w = .ok (.value v) w') (h : K (a.put o.dst v) w') : o.wp P a w K Q := by
  unfold Oper.wp; rw [hr]; exact h
/-- a list of one array is made -/
theorem w_one (t e : TypeId) (x : Operand) (ho : o.op = .buildSlice t 1 #[(0, x)])
    {k : IntKind} {n : Nat} {f : Nat → Int} (hx : a.eval x = .agg (arr k n f)) (hu : P.underlying t = some (.slice e)) (hi : (P.info? e).map (·.size) = some n) (hz : ((P.info? e).bind (·.zero)).isSome = true) (hn : 0 < n) (hn2 : n ≤ 2 ^ 24)
    (h : K (a.put o.dst (.slice (some ⟨w.heap.size, 0, none⟩) 1 1)) (w.alloc (.cells (arr k n f) e))) : o.wp P a w K Q := by
  cases hie : P.info? e with
  | none => simp [hie] at hi
  | some ie =>
    simp only [hie, Option.map_some, Option.some.injEq, Option.bind_some] at hi hz
    obtain ⟨z, hzz⟩ := Option.isSome_iff_exists.1 hz
    refine wp_buildSlice t e 1 _ ho _ ie z hu hie hzz (by rw [hi]; omega) (by rw [hi]; omega) ?_ h
    simp only [List.map_toArray, List.map_cons, List.map_nil, hx, hi]
    have := Great.fill_whole (s := n) hn [.agg (arr k n f)] ((Array.range (1 * n)).map (z.cells[· % z.cells.size]!)) (fun v hv => by simp only [List.mem_singleton] at hv; subst hv; simp [Value.cells, arr_size]) (by simp)
    simpa [Value.cells] using this
/-- append onto a list of the call's own -/
theorem w_append (s x : Operand) (t : TypeId)
    (ho : o.op = .call { callee := .builtin .append, args := #[s, x], argTypes := #[t, t] })
    (base : Nat) (e : TypeId) (i : TypeInfo) (z : Value) (size bytes : Nat) (ht : P.underlying t = some (.slice e)) (hi : P.info? e = some i) (hz : i.zero = some z)
    (hsize : i.size = size) (hby : i.bytes = bytes) (hzs : z.cells.size = size) (hsz : 0 < size)
    (v : Value) (n : Nat) (xs : List Value) (hs : a.eval s = v) (hown : w.ownsRow base e size v n xs)
    (ad : Addr) (m c : Nat) (news : List Value) (hx : a.eval x = .slice (some ad) m c) (hl : news.length = m * size) (hnews : ∀ j u, news[j]? = some u → w.cell? (ad.add j) = some u) (h1 : ∀ u ∈ news, u.oneCell' = true)
    (h63 : n + m ≤ maxLen) (hbytes : (n + m) * bytes ≤ 140737488355328) (hbase : base ≤ w.heap.size)
    (h : ∀ v' w', w'.ownsRow base e size v' (n + m) (xs ++ news) → w.grownBy w' v.ownBlock → (v' = .slice none 0 0 ↔ v = .slice none 0 0 ∧ m = 0) → (v'.ownBlock = v.ownBlock ∨ v'.ownBlock = some w.heap.size) → K (a.put o.dst v') w') :
    o.wp P a w K Q := by
  obtain ⟨v', w', hr, h2, h3, h4, h5⟩ := run_append_own_at (P := P) w base t o.type e i z size bytes ht hi hz hsize hby hzs hsz v n xs hown ad m c news hl hnews h1 h63 hbytes hbase
  unfold Oper.wp execOp
  simp only [ho, resolve, invoke, builtin, Sem.run_bind, Sem.run_pure, Result.andThen_ok, List.map_toArray, List.map_cons, List.map_nil, hs, hx, hr]
  exact h v' w' h2 h3 h4 h5
end
section
variable {P : Program} {ops : Array Oper} {Q : Exit → Act → World → Prop} {a : Act} {w : World} {o : Oper} {rest : List Oper} (hg : Region.wanted o (yielded ops a.tmps) = true)
include hg
theorem p_wp (h : o.wp P a w (fun a' w' => wpList P ops Q rest a' w') Q) : wpList P ops Q (o :: rest) a w := by
  unfold wpList
  rw [if_pos hg]
  exact .inl h
omit hg in
theorem p_skip (hg : Region.wanted o (yielded ops a.tmps) = false) (h : wpList P ops Q rest (a.put o.dst undef) w) : wpList P ops Q (o :: rest) a w := by
  unfold wpList
  rw [if_neg (by rw [hg]; exact Bool.false_ne_true)]
  exact h
theorem p_val (v : Value) (hv : (execOp a.eval o).run P w = .ok (.value v) w) (h : wpList P ops Q rest (a.put o.dst v) w) : wpList P ops Q (o :: rest) a w :=
  p_wp hg (by unfold Oper.wp; rw [hv]; exact h)
theorem p_move (x : Operand) (ho : o.op = .move x) (v : Value) (hv : a.eval x = v) (h : wpList P ops Q rest (a.put o.dst v) w) : wpList P ops Q (o :: rest) a w :=
  p_val hg v (by unfold execOp; rw [ho]; simp [hv]) h
theorem p_assign (x : Operand) (ho : o.op = .assign x) (v : Value) (hv : a.eval x = v) (h : wpList P ops Q rest (a.put o.dst v) w) : wpList P ops Q (o :: rest) a w :=
  p_val hg v (by unfold execOp; rw [ho]; simp [hv]) h
theorem p_load (ty : TypeId) (x : Operand) (ho : o.op = .load ty x) (b : Nat) (hx : a.eval x = .pointer (some ⟨b, 0, none⟩))
    {k : IntKind} {n : Nat} {t : TypeId} {f : Nat → Int} {d : TypeDesc} (hA : Arr w b k n t f) (hu : P.underlying ty = some d) (hd : (match d with | .struct _ | .array _ _ => true | _ => false) = true)
    (hi' : (P.info? ty).map (·.size) = some n) (h : wpList P ops Q rest (a.put o.dst (.agg (arr k n f))) w) : wpList P ops Q (o :: rest) a w :=
  p_val hg _ (by
    unfold execOp
    simp only [ho, hx, Instr.loadAt, Instr.sureAddr, Sem.run_bind, Sem.run_pure, Result.andThen_ok, run_loadVar_row w b t ty _ _ d hA hu hd (by rw [arr_size]; exact hi')]) h
theorem p_load_mid (ty : TypeId) (x : Operand) (ho : o.op = .load ty x) (b off : Nat) (hx : a.eval x = .pointer (some ⟨b, off, none⟩))
    {k : IntKind} {n : Nat} {f : Nat → Int} {d : TypeDesc} (hA : w.rangeAt b off (arr k n f).toList) (hu : P.underlying ty = some d) (hd : d.isRow = true)
    (hi' : (P.info? ty).map (·.size) = some n) (h : wpList P ops Q rest (a.put o.dst (.agg (arr k n f))) w) : wpList P ops Q (o :: rest) a w :=
  p_wp hg (wp_load_mid ty x ho b off hx (arr k n f).toList d hA hu hd (by rw [Array.length_toList, arr_size]; exact hi') (by simpa using h))
theorem p_pick (c x y : Operand) (ho : o.op = .pick c x y) (b : Bool) (hc : a.eval c = .bool b) (v : Value) (hv : (if b then a.eval x else a.eval y) = v) (h : wpList P ops Q rest (a.put o.dst v) w) : wpList P ops Q (o :: rest) a w :=
  p_val hg v (by unfold execOp; rw [ho]; simp only [hc]; cases b <;> simp_all [asBool]) h
theorem p_build (t : TypeId) (ps : List (Nat × Operand)) (ho : o.op = .build t ps.toArray) (v : Value) (vs : List (Nat × Value)) (hvs : ps.map (fun (i, x) => (i, a.eval x)) = vs)
    (hb : ∀ w, (Instr.build t vs.toArray).run P w = .ok v w) (h : wpList P ops Q rest (a.put o.dst v) w) : wpList P ops Q (o :: rest) a w :=
  p_val hg v (by
    unfold execOp; rw [ho]
    have e := hb w
    rw [← hvs] at e
    simp only [List.map_toArray, Sem.run_bind, e, Result.andThen_ok, Sem.run_pure]) h
omit hg in
/-- a block is written over a block -/
theorem p_store (ty : TypeId) (x y : Operand) (ho : o.op = .store ty x y) (b : Nat) {k : IntKind} {n : Nat} {f : Nat → Int} (hx : a.eval x = .pointer (some ⟨b, 0, none⟩)) (hy : a.eval y = .agg (arr k n f))
    {t : TypeId} {g : Nat → Int} (hA : Arr w b k n t g) (hi : (P.info? ty).map (·.size) = some n) (hgd : o.guard = none)
    (h : ∀ w', Arr w' b k n t f → w.grownBy w' (some b) → w'.heap.size = w.heap.size → wpList P ops Q rest (a.put o.dst undef) w') : wpList P ops Q (o :: rest) a w :=
  wpList_store_arr hgd ty x y ho b hx hy hA hi h
theorem p_len (x : Operand) (t e : TypeId) (ho : o.op = .call { callee := .builtin .len, args := #[x], argTypes := #[t] }) (q : Option Addr) (n c : Nat) (hx : a.eval x = .slice q n c) (hu : P.underlying t = some (.slice e))
    (h : wpList P ops Q rest (a.put o.dst (.int .i64 n)) w) : wpList P ops Q (o :: rest) a w :=
  p_val hg _ (by
    unfold execOp
    simp [ho, hx, resolve, invoke, builtin, Builtin.len_, run_underlying hu, goInt]) h
theorem p_lss (t r : TypeId) (x y : Operand) (ho : o.op = .binOp .lss t x y r) (m n : Nat) (hx : a.eval x = .int .i64 m) (hy : a.eval y = .int .i64 n) (c : Bool) (hc : decide (m < n) = c)
    (h : wpList P ops Q rest (a.put o.dst (.bool c)) w) : wpList P ops Q (o :: rest) a w :=
  p_val hg _ (by
    subst hc
    have e : (binOp .lss t (.int .i64 m) (.int .i64 n)).run P w = .ok (.bool (decide (m < n))) w := by simp [go_sem]
    unfold execOp
    rw [ho]
    simp only [hx, hy, eqGuard_lss, Sem.run_bind, Sem.run_pure, Result.andThen_ok, e]) h
omit hg in
theorem p_nil (h : Q .normal a w) : wpList P ops Q [] a w := h
theorem p_index (t e : TypeId) (x ix : Operand) (ho : o.op = .indexAddr t x ix) (b off : Nat) (len cap : Nat) (hx : a.eval x = .slice (some ⟨b, off, none⟩) len cap) (j : Nat) (hj : a.eval ix = .int .i64 j) (hlt : j < len) (size : Nat)
    (hu : P.underlying t = some (.slice e)) (hi' : (P.info? e).map (·.size) = some size)
    (h : wpList P ops Q rest (a.put o.dst (.pointer (some ⟨b, off + j * size, none⟩))) w) : wpList P ops Q (o :: rest) a w :=
  p_val hg _ (by
    unfold execOp
    cases hie : P.info? e with
    | none => simp [hie] at hi'
    | some ie =>
      simp only [hie, Option.map_some, Option.some.injEq] at hi'
      subst hi'
      have h1 : (0 : Int) ≤ j ∧ (j : Int) < len := by omega
      simp [ho, hx, hj, Instr.indexAt, asIntOf, run_underlying hu, sizeOf, typeInfo, hie, h1, hlt, Addr.add_mid]) h
end
/-- a row of the call's own, where its block did not change -/
theorem own_of {w w' : World} {base : Nat} {e : TypeId} {size : Nat} {v : Value} {n : Nat} {xs : List Value} (h : w.ownsRow base e size v n xs) (hb : ∀ g, v.ownBlock = some g → w'.heap[g]? = w.heap[g]?) : w'.ownsRow base e size v n xs := by
  refine ⟨h.1, ?_⟩
  rcases h.2 with h | ⟨g, cap, cur, rfl, h1, h2, h3⟩
  · exact .inl h
  · exact .inr ⟨g, cap, cur, rfl, h1, by rw [hb g rfl]; exact h2, h3⟩
theorem own_lt {w : World} {base : Nat} {e : TypeId} {size : Nat} {v : Value} {n : Nat} {xs : List Value} (h : w.ownsRow base e size v n xs) {g : Nat} (hg : v.ownBlock = some g) : base ≤ g ∧ g < w.heap.size := by
  rcases h.2 with ⟨rfl, _⟩ | ⟨g', cap, cur, rfl, h1, h2, _⟩
  · cases hg
  · obtain rfl : g' = g := by simpa [Value.ownBlock] using hg
    refine ⟨h1, ?_⟩
    rcases Nat.lt_or_ge g' w.heap.size with h' | h'
    · exact h'
    · rw [Array.getElem?_eq_none h'] at h2; cases h2
theorem gb_below {w w' : World} {B : Nat} {o : Option Nat} (h : w.grownBy w' o) (hB : B ≤ w.heap.size) (ho : ∀ g, o = some g → B ≤ g) : Below B w w' :=
  ⟨h.os, h.tape, h.output, h.size, fun k hk => h.block k (by omega) (fun e => by have := ho k e.symm; omega)⟩

/-! structs and single cells -/
/-- a type of one cell: no struct, no array -/
def oneD (d : TypeDesc) : Bool := match d with | .struct _ | .array _ _ => false | _ => true
section
variable {P : Program} {w : World}
theorem run_field0 (s : TypeId) (b o f : Nat) {fs : Array Field} {fd : Field} {sz : Nat} (hu : P.underlying s = some (.struct fs)) (hf : fs[f]? = some fd) (hi : (P.info? fd.type).map (·.size) = some sz) (hs : sz ≠ 0) :
    (Instr.fieldAt s (.pointer (some ⟨b, o, none⟩)) f).run P w = .ok (.pointer (some ⟨b, o + fd.offset, none⟩)) w := by
  cases hie : P.info? fd.type with
  | none => simp [hie] at hi
  | some ie =>
    simp only [hie, Option.map_some, Option.some.injEq] at hi
    have e : (sizeOf fd.type).run P w = .ok sz w := by simp [sizeOf, typeInfo, hie, hi]
    simp [go_sem, run_underlying hu, hf, e, hs, Addr.add_mid]
theorem run_equalIn_bool (t : TypeId) (d : Nat) (m n : Bool) (hu : P.underlying t = some .bool) : (Op.equalIn (d + 1) t (.bool m) (.bool n)).run P w = .ok (m == n) w := by
  simp [Op.equalIn, run_underlying hu]
theorem run_load1 (ty : TypeId) (b o : Nat) {d : TypeDesc} {v : Value} (hu : P.underlying ty = some d) (hd : oneD d = true) (hc : w.cell? ⟨b, o, none⟩ = some v) :
    (loadVar ty ⟨b, o, none⟩).run P w = .ok v w := by
  have e : (isAgg ty).run P w = .ok false w := by
    unfold isAgg
    simp only [Sem.run_bind, run_underlying hu, Result.andThen_ok]
    cases d <;> simp_all [oneD]
  simp [loadVar, Sem.run_bind, e, go_sem, hc]
end
section
variable {P : Program} {ops : Array Oper} {C : World → Prop} {Q : Act → Prop} {o : Oper} {rest : List Oper} {a : Act}
theorem q_field (hg : Region.wanted o (yielded ops a.tmps) = true) (s : TypeId) (x : Operand) (f : Nat) (ho : o.op = .fieldAddr s x f) (b off : Nat) (hx : a.eval x = .pointer (some ⟨b, off, none⟩))
    {fs : Array Field} {fd : Field} {sz : Nat} (hu : P.underlying s = some (.struct fs)) (hf : fs[f]? = some fd) (hi : (P.info? fd.type).map (·.size) = some sz) (hs : sz ≠ 0) (off2 : Nat) (ho2 : off + fd.offset = off2)
    (h : wpQuiet P ops C Q rest (a.put o.dst (.pointer (some ⟨b, off2, none⟩)))) : wpQuiet P ops C Q (o :: rest) a :=
  q_pure hg _ (fun w => by
    subst ho2
    unfold execOp; rw [ho]
    simp only [hx, Sem.run_bind, run_field0 s b off f hu hf hi hs, Result.andThen_ok, Sem.run_pure]) h
theorem q_loadrow (hg : Region.wanted o (yielded ops a.tmps) = true) (ty : TypeId) (x : Operand) (ho : o.op = .load ty x) (b : Nat) (hx : a.eval x = .pointer (some ⟨b, 0, none⟩))
    {t : TypeId} {cs : Array Value} {d : TypeDesc} (hA : ∀ w, C w → w.heap[b]? = some (.cells cs t (0, 0))) (hu : P.underlying ty = some d) (hd : (match d with | .struct _ | .array _ _ => true | _ => false) = true)
    (hi : (P.info? ty).map (·.size) = some cs.size) (h : wpQuiet P ops C Q rest (a.put o.dst (.agg cs))) : wpQuiet P ops C Q (o :: rest) a :=
  q_val hg _ (fun w hw => by
    unfold Oper.quietAt execOp
    simp only [ho, hx, Instr.loadAt, Instr.sureAddr, Sem.run_bind, Sem.run_pure, Result.andThen_ok, run_loadVar_row w b t ty _ _ d (hA w hw) hu hd hi]
    exact ⟨rfl, rfl⟩) h
theorem q_load1 (hg : Region.wanted o (yielded ops a.tmps) = true) (ty : TypeId) (x : Operand) (ho : o.op = .load ty x) (b off : Nat) (hx : a.eval x = .pointer (some ⟨b, off, none⟩))
    {d : TypeDesc} (v : Value) (hA : ∀ w, C w → w.cell? ⟨b, off, none⟩ = some v) (hu : P.underlying ty = some d) (hd : oneD d = true)
    (h : wpQuiet P ops C Q rest (a.put o.dst v)) : wpQuiet P ops C Q (o :: rest) a :=
  q_val hg _ (fun w hw => by
    unfold Oper.quietAt execOp
    simp only [ho, hx, Instr.loadAt, Instr.sureAddr, Sem.run_bind, Sem.run_pure, Result.andThen_ok, run_load1 ty b off hu hd (hA w hw)]
    exact ⟨rfl, rfl⟩) h
theorem q_eqb (hg : Region.wanted o (yielded ops a.tmps) = true) (t r : TypeId) (x y : Operand) (ho : o.op = .binOp .eql t x y r) (m n : Bool) (hx : a.eval x = .bool m) (hy : a.eval y = .bool n) (hu : P.underlying t = some .bool) (c : Bool) (hc : (m == n) = c)
    (h : wpQuiet P ops C Q rest (a.put o.dst (.bool c))) : wpQuiet P ops C Q (o :: rest) a :=
  q_pure hg _ (fun w => by
    subst hc
    unfold execOp; rw [ho]
    simp only [hx, hy, Sem.run_bind]
    have e1 : (eqGuard .eql t x y (.bool m) (.bool n)).run P w = .ok () w := rfl
    have e2 : (binOp .eql t (.bool m) (.bool n)).run P w = .ok (.bool (m == n)) w := by
      have e3 := run_equalIn_bool (P := P) (w := w) t 9999 m n hu
      have e4 : (Op.equal t (.bool m) (.bool n)).run P w = .ok (m == n) w := e3
      simp only [binOp, Sem.run_bind, e4, Result.andThen_ok, Sem.run_pure]
    simp only [e1, e2, Result.andThen_ok, Sem.run_pure]) h
theorem q_idx (hg : Region.wanted o (yielded ops a.tmps) = true) (t e : TypeId) (x ix : Operand) (ho : o.op = .indexAddr t x ix) (b off : Nat) (len cap : Nat) (hx : a.eval x = .slice (some ⟨b, off, none⟩) len cap) (j : Nat) (hj : a.eval ix = .int .i64 j) (hlt : j < len) (size : Nat)
    (hu : P.underlying t = some (.slice e)) (hi' : (P.info? e).map (·.size) = some size)
    (h : wpQuiet P ops C Q rest (a.put o.dst (.pointer (some ⟨b, off + j * size, none⟩)))) : wpQuiet P ops C Q (o :: rest) a :=
  q_pure hg _ (fun w => by
    unfold execOp
    cases hie : P.info? e with
    | none => simp [hie] at hi'
    | some ie =>
      simp only [hie, Option.map_some, Option.some.injEq] at hi'
      subst hi'
      have h1 : (0 : Int) ≤ j ∧ (j : Int) < len := by omega
      simp [ho, hx, hj, Instr.indexAt, asIntOf, run_underlying hu, sizeOf, typeInfo, hie, h1, hlt, Addr.add_mid]) h
end
end Go.Proofs.YtojnfhmmglbmkaaDoor.Step
