/- Two arrays of numbers compared; operations of a region that draws its order, one law each. General lemmas. -/
import Derived.Test.YtfchbodbkdkcfaaRegion
import Derived.Test.YtfchbodbkdkcfaaPoly
import Derived.ChangeKeysEq
import Derived.Laws.StructEq
namespace Go.Proofs.Ytfchbodbkdkcfaa.Eqs
open Go.RowKit Go.Lib Go.Proofs.Ytfchbodbkdkcfaa.Blk Go.Proofs.Ytfchbodbkdkcfaa.Poly

section
variable {P : Program}
theorem run_eqItems_arr (w : World) (d : Nat) {e : TypeId} {k : IntKind} (he : P.underlying e = some (.int k)) {n : Nat} (f g : Nat → Int) :
    ∀ is : List Nat, (∀ i ∈ is, i < n) → (Op.eqItems (d + 1) e 1 (arr k n f) (arr k n g) is).run P w = .ok (is.all fun i => f i == g i) w
  | [], _ => by simp [Op.eqItems]
  | i :: is, h => by
    have hp : P.plainKey e = true := by simp [Program.plainKey, he]
    have p1 := run_part_plain (P := P) w hp (arr_get k n f i (h i (List.mem_cons_self ..)))
    have p2 := run_part_plain (P := P) w hp (arr_get k n g i (h i (List.mem_cons_self ..)))
    have p3 : (Op.equalIn (d + 1) e (.int k (f i)) (.int k (g i))).run P w = .ok (f i == g i) w := by simp [Op.equalIn, run_underlying he]
    have ih := run_eqItems_arr w d he f g is (fun j hj => h j (List.mem_cons_of_mem _ hj))
    simp only [Op.eqItems, Nat.mul_one, Sem.run_bind, p1, p2, p3, Result.andThen_ok, List.all_cons]
    cases hc : (f i == g i)
    · simp
    · simpa using ih

theorem run_equalIn_arr (w : World) (d : Nat) {t e : TypeId} {k : IntKind} {n : Nat} (hu : P.underlying t = some (.array n e)) (he : P.underlying e = some (.int k)) (hs : P.cellsOf e = 1) (f g : Nat → Int) :
    (Op.equalIn (d + 2) t (.agg (arr k n f)) (.agg (arr k n g))).run P w = .ok ((List.range n).all fun i => f i == g i) w := by
  obtain ⟨i, hi⟩ := info_of_underlying he
  rw [run_equalIn_array w (d + 1) _ _ hu hi, hs]
  exact run_eqItems_arr w d he f g _ (fun i hi => by simpa using hi)

/-- two blocks as numbers -/
theorem all_byt (a b : Nat) (ha : a < 2 ^ 128) (hb : b < 2 ^ 128) : ((List.range 16).all fun i => (byt a i : Int) == (byt b i : Int)) = (a == b) := by
  rw [Bool.eq_iff_iff, List.all_eq_true, beq_iff_eq]
  constructor
  · intro h
    exact num_ext ha hb fun i hi => by have := h i (by simpa using hi); simp only [beq_iff_eq] at this; omega
  · rintro rfl i _
    simp

theorem run_eql16 (w : World) {t e : TypeId} (hu : P.underlying t = some (.array 16 e)) (he : P.underlying e = some (.int .u8)) (hs : P.cellsOf e = 1) (a b : Nat) (ha : a < 2 ^ 128) (hb : b < 2 ^ 128) :
    (binOp .eql t (A16 fun i => (byt a i : Int)) (A16 fun i => (byt b i : Int))).run P w = .ok (.bool (a == b)) w := by
  rw [run_eql_struct, run_equalIn_arr w 9998 hu he hs, all_byt a b ha hb]; rfl
theorem run_neq16 (w : World) {t e : TypeId} (hu : P.underlying t = some (.array 16 e)) (he : P.underlying e = some (.int .u8)) (hs : P.cellsOf e = 1) (a b : Nat) (ha : a < 2 ^ 128) (hb : b < 2 ^ 128) :
    (binOp .neq t (A16 fun i => (byt a i : Int)) (A16 fun i => (byt b i : Int))).run P w = .ok (.bool (!(a == b))) w := by
  rw [run_neq_struct, run_equalIn_arr w 9998 hu he hs, all_byt a b ha hb]; rfl
end

/-! one operation of a quiet walk -/
section
variable {P : Program} {ops : Array Oper} {C : World → Prop} {Q : Act → Prop} {o : Oper} {rest : List Oper} {a : Act}
theorem q_val (hg : Region.wanted o (yielded ops a.tmps) = true) (v : Value) (hy : ∀ w, C w → o.quietAt P a C w v) (h : wpQuiet P ops C Q rest (a.put o.dst v)) : wpQuiet P ops C Q (o :: rest) a := by
  unfold wpQuiet
  rw [if_pos hg]
  exact ⟨v, hy, h⟩
theorem q_load (hg : Region.wanted o (yielded ops a.tmps) = true) (ty : TypeId) (x : Operand) (ho : o.op = .load ty x) (b : Nat) (hx : a.eval x = .pointer (some ⟨b, 0, none⟩))
    {k : IntKind} {n : Nat} {t : TypeId} {f : Nat → Int} {d : TypeDesc} (hA : ∀ w, C w → Arr w b k n t f) (hu : P.underlying ty = some d) (hd : (match d with | .struct _ | .array _ _ => true | _ => false) = true)
    (hi : (P.info? ty).map (·.size) = some n) (h : wpQuiet P ops C Q rest (a.put o.dst (.agg (arr k n f)))) : wpQuiet P ops C Q (o :: rest) a :=
  q_val hg _ (fun w hw => by
    unfold Oper.quietAt execOp
    simp only [ho, hx, Instr.loadAt, Instr.sureAddr, Sem.run_bind, Sem.run_pure, Result.andThen_ok, run_loadVar_row w b t ty _ _ d (hA w hw) hu hd (by rw [arr_size]; exact hi)]
    exact ⟨rfl, rfl⟩) h
theorem q_pure (hg : Region.wanted o (yielded ops a.tmps) = true) (v : Value) (hy : ∀ w, (execOp a.eval o).run P w = .ok (.value v) w) (h : wpQuiet P ops C Q rest (a.put o.dst v)) : wpQuiet P ops C Q (o :: rest) a :=
  q_val hg v (fun w _ => by unfold Oper.quietAt; rw [hy]; exact ⟨rfl, rfl⟩) h
theorem q_move (hg : Region.wanted o (yielded ops a.tmps) = true) (x : Operand) (ho : o.op = .move x) (v : Value) (hv : a.eval x = v) (h : wpQuiet P ops C Q rest (a.put o.dst v)) : wpQuiet P ops C Q (o :: rest) a :=
  q_pure hg v (fun w => by unfold execOp; rw [ho]; simp [hv]) h
theorem q_pick (hg : Region.wanted o (yielded ops a.tmps) = true) (c x y : Operand) (ho : o.op = .pick c x y) (b : Bool) (hc : a.eval c = .bool b) (v : Value) (hv : (if b then a.eval x else a.eval y) = v) (h : wpQuiet P ops C Q rest (a.put o.dst v)) : wpQuiet P ops C Q (o :: rest) a :=
  q_pure hg v (fun w => by unfold execOp; rw [ho]; simp only [hc]; cases b <;> simp_all [asBool]) h
theorem q_skip (hg : Region.wanted o (yielded ops a.tmps) = false) (h : wpQuiet P ops C Q rest (a.put o.dst undef)) : wpQuiet P ops C Q (o :: rest) a :=
  BigFrame.wpQuiet_skip hg h
/-- two blocks compared -/
theorem q_neq (hg : Region.wanted o (yielded ops a.tmps) = true) (t r : TypeId) (x y : Operand) (ho : o.op = .binOp .neq t x y r) (m n : Nat) (hx : a.eval x = A16 fun i => (byt m i : Int)) (hy : a.eval y = A16 fun i => (byt n i : Int))
    {e : TypeId} (hu : P.underlying t = some (.array 16 e)) (he : P.underlying e = some (.int .u8)) (hs : P.cellsOf e = 1) (hq : P.eqGuardType P.depth t = false) (hm : m < 2 ^ 128) (hn : n < 2 ^ 128) (c : Bool) (hc : (!(m == n)) = c)
    (h : wpQuiet P ops C Q rest (a.put o.dst (.bool c))) : wpQuiet P ops C Q (o :: rest) a :=
  q_pure hg _ (fun w => by
    unfold execOp; rw [ho]
    simp only [hx, hy, Sem.run_bind, run_eqGuard_agg w .neq t x y _ _ hq, Result.andThen_ok, run_neq16 w hu he hs m n hm hn, hc, Sem.run_pure]) h
theorem q_eql (hg : Region.wanted o (yielded ops a.tmps) = true) (t r : TypeId) (x y : Operand) (ho : o.op = .binOp .eql t x y r) (m n : Nat) (hx : a.eval x = A16 fun i => (byt m i : Int)) (hy : a.eval y = A16 fun i => (byt n i : Int))
    {e : TypeId} (hu : P.underlying t = some (.array 16 e)) (he : P.underlying e = some (.int .u8)) (hs : P.cellsOf e = 1) (hq : P.eqGuardType P.depth t = false) (hm : m < 2 ^ 128) (hn : n < 2 ^ 128) (c : Bool) (hc : (m == n) = c)
    (h : wpQuiet P ops C Q rest (a.put o.dst (.bool c))) : wpQuiet P ops C Q (o :: rest) a :=
  q_pure hg _ (fun w => by
    unfold execOp; rw [ho]
    simp only [hx, hy, Sem.run_bind, run_eqGuard_agg w .eql t x y _ _ hq, Result.andThen_ok, run_eql16 w hu he hs m n hm hn, hc, Sem.run_pure]) h
theorem q_assign (hg : Region.wanted o (yielded ops a.tmps) = true) (x : Operand) (ho : o.op = .assign x) (v : Value) (hv : a.eval x = v) (h : wpQuiet P ops C Q rest (a.put o.dst v)) : wpQuiet P ops C Q (o :: rest) a :=
  q_pure hg v (fun w => by unfold execOp; rw [ho]; simp [hv]) h
/-- a literal of a struct or an array -/
theorem q_build (hg : Region.wanted o (yielded ops a.tmps) = true) (t : TypeId) (ps : List (Nat × Operand)) (ho : o.op = .build t ps.toArray) (v : Value) (vs : List (Nat × Value)) (hvs : ps.map (fun (i, x) => (i, a.eval x)) = vs)
    (hb : ∀ w, (Instr.build t vs.toArray).run P w = .ok v w) (h : wpQuiet P ops C Q rest (a.put o.dst v)) : wpQuiet P ops C Q (o :: rest) a :=
  q_pure hg v (fun w => by
    unfold execOp; rw [ho]
    have e := hb w
    rw [← hvs] at e
    simp only [List.map_toArray, Sem.run_bind, e, Result.andThen_ok, Sem.run_pure]) h
theorem ne_false {m n : Nat} (h : m = n) : (!(m == n)) = false := by subst h; simp
theorem eq_true {m n : Nat} (h : m = n) : (m == n) = true := by subst h; simp
/-- a region that draws its order, its operations a list -/
theorem wp_region_class {id : Nat} {Q : Exit → Act → World → Prop} {a : Act} {w : World} {l : List Oper} (hm : P.follows .mixedOrders = true) (hB : Region.lexB .any l.toArray = true) (hC : C w.drew)
    (h : wpQuiet P l.toArray C (fun a' => ∀ w', C w' → Q .normal a' w') l a) : (Code.region id l.toArray true).wp P Q a w :=
  wp_region_quiet (C := C) hm hB hC (by simpa using h)
/-- a call of a function of the program -/
theorem q_call (hg : Region.wanted o (yielded ops a.tmps) = true) (f : FuncId) (args : List Operand) (ts : Array TypeId) (ho : o.op = .call { callee := .value (.func f), args := args.toArray, argTypes := ts })
    {fn : Func} (hf : P.funcs[f]? = some fn) (hn : (fn.name == "runtime.NumGoroutine") = false) (hb : fn.body.isNone = false) (v : Value) (vs : List Value) (hvs : args.map a.eval = vs)
    (hc : ∀ w, C w → Calls P f vs.toArray w fun e w' => e = .returned v ∧ C w') (h : wpQuiet P ops C Q rest (a.put o.dst v)) : wpQuiet P ops C Q (o :: rest) a :=
  q_val hg v (fun w hw => by
    unfold Oper.quietAt execOp
    rw [ho]
    simp only [resolve, Act.eval, Deferred.ofValue, Sem.run_bind, Sem.run_pure, Result.andThen_ok, invoke, Array.append_empty, Array.empty_append, callFunc, run_program, hf, hn, hb, Bool.false_eq_true, if_false]
    rw [List.map_toArray, show (args.map a.eval) = vs from hvs]
    exact ⟨rfl, hc w hw⟩) h
end
end Go.Proofs.Ytfchbodbkdkcfaa.Eqs
