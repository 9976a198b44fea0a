/- Parts of the proof of TweakFlips. Dig8: digest: Sum of one list of bytes: 32 bytes. Eq: Two arrays of numbers compared; operations of a region that draws its order, one law each. General lemmas. TabR: cofferref03.Rows: the document's table of names. -/
import Derived.Test.YtmifebcaifbmoaaGreatDoorK27
import Derived.Test.YtmifebcaifbmoaaGreatDoorK18
import Derived.Test.YtmifebcaifbmoaaGreatDoorK11
import Derived.ChangeKeysEq
import Derived.Laws.StructEq
import Derived.Test.YtmifebcaifbmoaaGreatDoorK13
/- Dig8 -/
section
namespace Go.Proofs.YtmifebcaifbmoaaGreatDoor.Dig
open Go.RowKit Go.Lib Go.Proofs.YtmifebcaifbmoaaGreatDoor.Blk Go.Proofs.YtmifebcaifbmoaaGreatDoor.Tw Go.Proofs.YtmifebcaifbmoaaGreatDoor.G Go.Proofs.YtmifebcaifbmoaaGreatDoor.Push

/-- 32 bytes of one's own -/
def Out32 (B : Nat) (v : Value) (w : World) : Prop := ∃ g F, v = .slice (some ⟨g, 0, none⟩) 32 32 ∧ (∀ i, F i < 256) ∧ KeyB w g 0 32 F ∧ B ≤ g
set_option maxRecDepth 100000 in
set_option maxHeartbeats 8000000 in
theorem ssum_any (sb c : Nat) (hc : c ≤ 33554432) (w : World) (hr : RowP w sb 234 142 (stP c)) (hcu : WordsAt 7 80 w) : Calls Tryz.prog 161 #[.pointer (some ⟨sb, 0, none⟩)] w fun e w' => (∃ v, e = .returned v ∧ Out32 w.heap.size v w') ∧ Below w.heap.size w w' := by
  obtain ⟨cs, hrow, hst⟩ := StV.ofRow hr
  have HR := Lib.hid hrow
  have EN := Lib.hid (end_any c hc cs hst w hcu)
  have hsz : (Tryz.prog.info? 230).map (·.size) = some cs.size := by rw [hst.1]; kernel_rfl
  clear hr hrow hst hcu
  go_enter Tryz.func161, Tryz.ntmps161
  go_upto_region 3 with fail
  refine wp_region_lit ?_
  refine Step.p_move rfl _ rfl (.pointer (some ⟨sb, 0, none⟩)) rfl ?_
  simp only [Act.put, List.setIfInBounds_toArray, List.set_cons_zero, List.set_cons_succ]
  refine Step.p_val rfl (.pointer (some ⟨sb, 0, none⟩)) (by unfold execOp; go_simp; try rfl) ?_
  simp only [Act.put, List.setIfInBounds_toArray, List.set_cons_zero, List.set_cons_succ]
  refine Tree.p_field rfl _ _ _ rfl sb 0 rfl Tryz.underlying234 rfl (sz := 142) (by kernel_rfl) (by decide) 0 rfl ?_
  simp only [Act.put, List.setIfInBounds_toArray, List.set_cons_zero, List.set_cons_succ]
  refine Tree.p_loadrow rfl _ _ rfl sb rfl HR.out Tryz.underlying230 rfl hsz ?_
  simp only [Act.put, List.setIfInBounds_toArray, List.set_cons_zero, List.set_cons_succ]
  refine Step.p_wp rfl (Step.w_callx 185 _ _ rfl Tryz.func185 (by kernel_rfl) rfl [.agg cs] rfl EN.out ?_)
  rintro e w2 ⟨⟨g, cap, F, rfl, _, h2, h3, h4⟩, hb⟩
  refine ⟨_, rfl, ?_⟩
  simp only [Act.put, List.setIfInBounds_toArray, List.set_cons_zero, List.set_cons_succ]
  refine Step.p_assign rfl _ rfl (.slice (some ⟨g, 0, none⟩) 32 32) rfl ?_
  simp only [Act.put, List.setIfInBounds_toArray, List.set_cons_zero, List.set_cons_succ]
  refine wpList_nil ?_
  have HO : Hid (Out32 w.heap.size (.slice (some ⟨g, 0, none⟩) 32 32) w2 ∧ Below w.heap.size w w2) := Lib.hid ⟨⟨g, F, rfl, h2, h3, h4⟩, hb⟩
  clear h2 h3 h4 hb
  go_wp2
  go_ret
  exact ⟨⟨_, rfl, HO.out.1⟩, HO.out.2⟩

set_option maxRecDepth 100000 in
set_option maxHeartbeats 8000000 in
theorem sum_any (pb g off n cap : Nat) (hn : n ≤ 33554432) (hnc : n ≤ cap) (hcm : cap ≤ 9223372036854775807) (w : World) (hg : g < w.heap.size) (h : w.cell? ⟨pb, 0, none⟩ = some (.slice (some ⟨g, off, none⟩) n cap)) (hb : BU w (some ⟨g, off, none⟩) n w.heap.size) (hcu : WordsAt 7 80 w) (hsq : WordsAt 6 16 w) :
    Calls Tryz.prog 117 #[.int .i64 256, .slice (some ⟨pb, 0, none⟩) 1 1] w fun e w' => (∃ v, e = .returned (.tuple #[v, .int .i64 0]) ∧ Out32 w.heap.size v w') ∧ Below w.heap.size w w' := by
  have hpl : pb < w.heap.size := Frame.block_lt h
  have hcl : 7 < w.heap.size := by obtain ⟨z, hz⟩ := hcu 0 (by decide); exact Frame.block_lt hz
  have NE := Lib.hid (new_any w hsq)
  have WR := Lib.hid (fun sb w' (hsb : w.heap.size ≤ sb) (b : Below w.heap.size w w') (hr : RowP w' sb 234 142 (stP 0)) => write_any sb pb g off n cap hn hnc hcm (by omega) (by omega) w' (cell_bel b h) (hb.next (fun g' o z hl hz => (b.cell (p := ⟨g', o, none⟩) hl).trans hz) b.size) hr (hcu.below b) (by omega))
  have CU := Lib.hid (fun w' (b : Below w.heap.size w w') => hcu.below b)
  clear h hb hcu hsq
  go_enter Tryz.func117, Tryz.ntmps117
  go_upto_region 1 with fail
  refine wp_region_lit ?_
  refine Step.p_move rfl _ rfl (.int .i64 256) rfl ?_
  simp only [Act.put, List.setIfInBounds_toArray, List.set_cons_zero, List.set_cons_succ]
  refine Step.p_wp rfl (Step.w_callx 159 _ _ rfl Tryz.func159 (by kernel_rfl) rfl [.int .i64 256] rfl NE.out ?_)
  rintro e w2 ⟨⟨sb, rfl, hr, hsb⟩, hb⟩
  refine ⟨_, rfl, ?_⟩
  simp only [Act.put, List.setIfInBounds_toArray, List.set_cons_zero, List.set_cons_succ]
  have W2 := Lib.hid (WR.out sb w2 hsb hb hr)
  have B2 := Lib.hid hb
  clear hr hb WR NE
  refine Step.p_move rfl _ rfl (.tuple #[.pointer (some ⟨sb, 0, none⟩), .int .i64 0]) rfl ?_
  simp only [Act.put, List.setIfInBounds_toArray, List.set_cons_zero, List.set_cons_succ]
  refine Step.p_val rfl (.pointer (some ⟨sb, 0, none⟩)) (by unfold execOp; go_simp; try rfl) ?_
  simp only [Act.put, List.setIfInBounds_toArray, List.set_cons_zero, List.set_cons_succ]
  refine Step.p_val rfl (.int .i64 0) (by unfold execOp; go_simp; try rfl) ?_
  simp only [Act.put, List.setIfInBounds_toArray, List.set_cons_zero, List.set_cons_succ]
  refine Step.p_assign rfl _ rfl (.pointer (some ⟨sb, 0, none⟩)) rfl ?_
  simp only [Act.put, List.setIfInBounds_toArray, List.set_cons_zero, List.set_cons_succ]
  refine Step.p_assign rfl _ rfl (.int .i64 0) rfl ?_
  simp only [Act.put, List.setIfInBounds_toArray, List.set_cons_zero, List.set_cons_succ]
  refine wpList_nil ?_
  go_upto_region 3 with fail
  refine wp_region_lit ?_
  refine Step.p_move rfl _ rfl (.pointer (some ⟨sb, 0, none⟩)) rfl ?_
  simp only [Act.put, List.setIfInBounds_toArray, List.set_cons_zero, List.set_cons_succ]
  refine Step.p_move rfl _ rfl (.slice (some ⟨pb, 0, none⟩) 1 1) rfl ?_
  simp only [Act.put, List.setIfInBounds_toArray, List.set_cons_zero, List.set_cons_succ]
  refine Step.p_wp rfl (Step.w_callx 160 _ _ rfl Tryz.func160 (by kernel_rfl) rfl [.pointer (some ⟨sb, 0, none⟩), .slice (some ⟨pb, 0, none⟩) 1 1] rfl W2.out ?_)
  rintro e w3 ⟨rfl, hr, hg3⟩
  refine ⟨_, rfl, ?_⟩
  simp only [Act.put, List.setIfInBounds_toArray, List.set_cons_zero, List.set_cons_succ]
  have B3 := Lib.hid (B2.out.grown hg3 B2.out.size (fun j hj => by cases hj; exact hsb))
  have SS := Lib.hid (ssum_any sb n hn w3 hr (CU.out w3 B3.out))
  clear hr hg3 W2 B2
  refine Step.p_assign rfl _ rfl (.int .i64 0) rfl ?_
  simp only [Act.put, List.setIfInBounds_toArray, List.set_cons_zero, List.set_cons_succ]
  refine wpList_nil ?_
  go_upto_region 6 with fail
  refine wp_region_lit ?_
  refine Step.p_move rfl _ rfl (.pointer (some ⟨sb, 0, none⟩)) rfl ?_
  simp only [Act.put, List.setIfInBounds_toArray, List.set_cons_zero, List.set_cons_succ]
  refine Step.p_wp rfl (Step.w_callx 161 _ _ rfl Tryz.func161 (by kernel_rfl) rfl [.pointer (some ⟨sb, 0, none⟩)] rfl SS.out ?_)
  rintro e w4 ⟨⟨v, rfl, g4, F, rfl, h2, h3, h4⟩, hb⟩
  refine ⟨_, rfl, ?_⟩
  simp only [Act.put, List.setIfInBounds_toArray, List.set_cons_zero, List.set_cons_succ]
  have HO : Hid (Out32 w.heap.size (.slice (some ⟨g4, 0, none⟩) 32 32) w4 ∧ Below w.heap.size w w4) := Lib.hid ⟨⟨g4, F, rfl, h2, h3, Nat.le_trans B3.out.size h4⟩, B3.out.trans (hb.mono B3.out.size)⟩
  clear h2 h3 h4 hb SS B3
  refine Step.p_assign rfl _ rfl (.slice (some ⟨g4, 0, none⟩) 32 32) rfl ?_
  simp only [Act.put, List.setIfInBounds_toArray, List.set_cons_zero, List.set_cons_succ]
  refine Step.p_assign rfl _ rfl (.int .i64 0) rfl ?_
  simp only [Act.put, List.setIfInBounds_toArray, List.set_cons_zero, List.set_cons_succ]
  refine wpList_nil ?_
  go_wp2
  go_ret2
  exact ⟨⟨_, rfl, HO.out.1⟩, HO.out.2⟩
end Go.Proofs.YtmifebcaifbmoaaGreatDoor.Dig
end

/- Eq -/
section
namespace Go.Proofs.YtmifebcaifbmoaaGreatDoor.Eqs
open Go.RowKit Go.Lib Go.Proofs.YtmifebcaifbmoaaGreatDoor.Blk Go.Proofs.YtmifebcaifbmoaaGreatDoor.Poly

section
variable {P : Program}
theorem run_eqItems_arr (w : World) (d : Nat) {e : TypeId} {k : IntKind} (he : P.underlying e = some (.int k)) {n : Nat} (f g : Nat → Int) :
    ∀ is : List Nat, (∀ i ∈ is, i < n) → (Op.eqItems (d + 1) e 1 (arr k n f) (arr k n g) is).run P w = .ok (is.all fun i => f i == g i) w
  | [], _ => by simp [Op.eqItems]
  | i :: is, h => by
    have hp : P.plainKey e = true := by simp [Program.plainKey, he]
    have p1 := run_part_plain (P := P) w hp (arr_get k n f i (h i (List.mem_cons_self ..)))
    have p2 := run_part_plain (P := P) w hp (arr_get k n g i (h i (List.mem_cons_self ..)))
    have p3 : (Op.equalIn (d + 1) e (.int k (f i)) (.int k (g i))).run P w = .ok (f i == g i) w := by simp [Op.equalIn, run_underlying he]
    have ih := run_eqItems_arr w d he f g is (fun j hj => h j (List.mem_cons_of_mem _ hj))
    simp only [Op.eqItems, Nat.mul_one, Sem.run_bind, p1, p2, p3, Result.andThen_ok, List.all_cons]
    cases hc : (f i == g i)
    · simp
    · simpa using ih

theorem run_equalIn_arr (w : World) (d : Nat) {t e : TypeId} {k : IntKind} {n : Nat} (hu : P.underlying t = some (.array n e)) (he : P.underlying e = some (.int k)) (hs : P.cellsOf e = 1) (f g : Nat → Int) :
    (Op.equalIn (d + 2) t (.agg (arr k n f)) (.agg (arr k n g))).run P w = .ok ((List.range n).all fun i => f i == g i) w := by
  obtain ⟨i, hi⟩ := info_of_underlying he
  rw [run_equalIn_array w (d + 1) _ _ hu hi, hs]
  exact run_eqItems_arr w d he f g _ (fun i hi => by simpa using hi)

/-- two blocks as numbers -/
theorem all_byt (a b : Nat) (ha : a < 2 ^ 128) (hb : b < 2 ^ 128) : ((List.range 16).all fun i => (byt a i : Int) == (byt b i : Int)) = (a == b) := by
  rw [Bool.eq_iff_iff, List.all_eq_true, beq_iff_eq]
  constructor
  · intro h
    exact num_ext ha hb fun i hi => by have := h i (by simpa using hi); simp only [beq_iff_eq] at this; omega
  · rintro rfl i _
    simp

theorem run_eql16 (w : World) {t e : TypeId} (hu : P.underlying t = some (.array 16 e)) (he : P.underlying e = some (.int .u8)) (hs : P.cellsOf e = 1) (a b : Nat) (ha : a < 2 ^ 128) (hb : b < 2 ^ 128) :
    (binOp .eql t (A16 fun i => (byt a i : Int)) (A16 fun i => (byt b i : Int))).run P w = .ok (.bool (a == b)) w := by
  rw [run_eql_struct, run_equalIn_arr w 9998 hu he hs, all_byt a b ha hb]; rfl
end

/-! one operation of a quiet walk -/
section
variable {P : Program} {ops : Array Oper} {C : World → Prop} {Q : Act → Prop} {o : Oper} {rest : List Oper} {a : Act}
theorem q_val (hg : Region.wanted o (yielded ops a.tmps) = true) (v : Value) (hy : ∀ w, C w → o.quietAt P a C w v) (h : wpQuiet P ops C Q rest (a.put o.dst v)) : wpQuiet P ops C Q (o :: rest) a := by
  unfold wpQuiet
  rw [if_pos hg]
  exact ⟨v, hy, h⟩
theorem q_load (hg : Region.wanted o (yielded ops a.tmps) = true) (ty : TypeId) (x : Operand) (ho : o.op = .load ty x) (b : Nat) (hx : a.eval x = .pointer (some ⟨b, 0, none⟩))
    {k : IntKind} {n : Nat} {t : TypeId} {f : Nat → Int} {d : TypeDesc} (hA : ∀ w, C w → Arr w b k n t f) (hu : P.underlying ty = some d) (hd : (match d with | .struct _ | .array _ _ => true | _ => false) = true)
    (hi : (P.info? ty).map (·.size) = some n) (h : wpQuiet P ops C Q rest (a.put o.dst (.agg (arr k n f)))) : wpQuiet P ops C Q (o :: rest) a :=
  q_val hg _ (fun w hw => by
    unfold Oper.quietAt execOp
    simp only [ho, hx, Instr.loadAt, Instr.sureAddr, Sem.run_bind, Sem.run_pure, Result.andThen_ok, run_loadVar_row w b t ty _ _ d (hA w hw) hu hd (by rw [arr_size]; exact hi)]
    exact ⟨rfl, rfl⟩) h
theorem q_pure (hg : Region.wanted o (yielded ops a.tmps) = true) (v : Value) (hy : ∀ w, (execOp a.eval o).run P w = .ok (.value v) w) (h : wpQuiet P ops C Q rest (a.put o.dst v)) : wpQuiet P ops C Q (o :: rest) a :=
  q_val hg v (fun w _ => by unfold Oper.quietAt; rw [hy]; exact ⟨rfl, rfl⟩) h
theorem q_move (hg : Region.wanted o (yielded ops a.tmps) = true) (x : Operand) (ho : o.op = .move x) (v : Value) (hv : a.eval x = v) (h : wpQuiet P ops C Q rest (a.put o.dst v)) : wpQuiet P ops C Q (o :: rest) a :=
  q_pure hg v (fun w => by unfold execOp; rw [ho]; simp [hv]) h
theorem q_pick (hg : Region.wanted o (yielded ops a.tmps) = true) (c x y : Operand) (ho : o.op = .pick c x y) (b : Bool) (hc : a.eval c = .bool b) (v : Value) (hv : (if b then a.eval x else a.eval y) = v) (h : wpQuiet P ops C Q rest (a.put o.dst v)) : wpQuiet P ops C Q (o :: rest) a :=
  q_pure hg v (fun w => by unfold execOp; rw [ho]; simp only [hc]; cases b <;> simp_all [asBool]) h
theorem q_skip (hg : Region.wanted o (yielded ops a.tmps) = false) (h : wpQuiet P ops C Q rest (a.put o.dst undef)) : wpQuiet P ops C Q (o :: rest) a :=
  BigFrame.wpQuiet_skip hg h
theorem q_assign (hg : Region.wanted o (yielded ops a.tmps) = true) (x : Operand) (ho : o.op = .assign x) (v : Value) (hv : a.eval x = v) (h : wpQuiet P ops C Q rest (a.put o.dst v)) : wpQuiet P ops C Q (o :: rest) a :=
  q_pure hg v (fun w => by unfold execOp; rw [ho]; simp [hv]) h
/-- a region that draws its order, its operations a list -/
theorem wp_region_class {id : Nat} {Q : Exit → Act → World → Prop} {a : Act} {w : World} {l : List Oper} (hm : P.follows .mixedOrders = true) (hB : Region.lexB .any l.toArray = true) (hC : C w.drew)
    (h : wpQuiet P l.toArray C (fun a' => ∀ w', C w' → Q .normal a' w') l a) : (Code.region id l.toArray true).wp P Q a w :=
  wp_region_quiet (C := C) hm hB hC (by simpa using h)
/-- a call of a function of the program -/
theorem q_call (hg : Region.wanted o (yielded ops a.tmps) = true) (f : FuncId) (args : List Operand) (ts : Array TypeId) (ho : o.op = .call { callee := .value (.func f), args := args.toArray, argTypes := ts })
    {fn : Func} (hf : P.funcs[f]? = some fn) (hn : (fn.name == "runtime.NumGoroutine") = false) (hb : fn.body.isNone = false) (v : Value) (vs : List Value) (hvs : args.map a.eval = vs)
    (hc : ∀ w, C w → Calls P f vs.toArray w fun e w' => e = .returned v ∧ C w') (h : wpQuiet P ops C Q rest (a.put o.dst v)) : wpQuiet P ops C Q (o :: rest) a :=
  q_val hg v (fun w hw => by
    unfold Oper.quietAt execOp
    rw [ho]
    simp only [resolve, Act.eval, Deferred.ofValue, Sem.run_bind, Sem.run_pure, Result.andThen_ok, invoke, Array.append_empty, Array.empty_append, callFunc, run_program, hf, hn, hb, Bool.false_eq_true, if_false]
    rw [List.map_toArray, show (args.map a.eval) = vs from hvs]
    exact ⟨rfl, hc w hw⟩) h
end
end Go.Proofs.YtmifebcaifbmoaaGreatDoor.Eqs
end

/- TabR -/
section
namespace Go.Proofs.YtmifebcaifbmoaaGreatDoor.Tab
open Go.RowKit Go.Lib

/-- a table of n rows -/
def RowsOk (xs : List Value) (n : Nat) : Prop := ∀ t, t < n → ∀ c, c < 5 → xs[5 * t + c]? = (rowL t)[c]?
theorem rows_succ {xs : List Value} {n : Nat} (h : RowsOk xs n) (hl : xs.length = n * 5) : RowsOk (xs ++ rowL n) (n + 1) := by
  intro t ht c hc
  by_cases e : t < n
  · rw [List.getElem?_append_left (by omega)]; exact h t e c hc
  · obtain rfl : t = n := by omega
    rw [List.getElem?_append_right (by omega), hl, show 5 * t + c - t * 5 = c by omega]
theorem row_info : (Tryz.prog.info? 45).map (fun i => (i.zero, i.size, i.bytes)) = some (some (.agg #[.string ⟨#[]⟩, .string ⟨#[]⟩, .string ⟨#[]⟩, .int .i64 0, .int .i64 0]), 5, 64) := by kernel_rfl
/-- what a round reads -/
structure RS (bn bm : Nat) (k : Nat) (md st : ByteArray) (mo : Int) (w : World) : Prop where
  n : w.heap[bn]? = some (.cells #[.string (pre 0), .string (pre 1), .string (pre 2)] 9 (0, 0))
  m : w.heap[bm]? = some (.cells #[.string (nm k), .string md, .string st, .int .i64 mo] 116 (0, 0))
theorem RS.alloc {bn bm k : Nat} {md st : ByteArray} {mo : Int} {w : World} (h : RS bn bm k md st mo w) (o : Obj) : RS bn bm k md st mo (w.alloc o) :=
  ⟨(heap_alloc_old w o (Array.getElem?_eq_some_iff.1 h.n).1).trans h.n, (heap_alloc_old w o (Array.getElem?_eq_some_iff.1 h.m).1).trans h.m⟩

section
variable {P : Program} {o : Oper} {a : Act} {w : World} {K : Act → World → Prop} {Q : Exit → Act → World → Prop}
/-- a list of one struct is made -/
theorem w_oneC (t e : TypeId) (x : Operand) (ho : o.op = .buildSlice t 1 #[(0, x)]) (cs : Array Value) {n : Nat} (hcs : cs.size = n)
    (hx : a.eval x = .agg cs) (hu : P.underlying t = some (.slice e)) (hi : (P.info? e).map (·.size) = some n) (hz : ((P.info? e).bind (·.zero)).isSome = true) (hn : 0 < n) (hn2 : n ≤ 2 ^ 24)
    (h : K (a.put o.dst (.slice (some ⟨w.heap.size, 0, none⟩) 1 1)) (w.alloc (.cells cs e))) : o.wp P a w K Q := by
  cases hie : P.info? e with
  | none => simp [hie] at hi
  | some ie =>
    simp only [hie, Option.map_some, Option.some.injEq, Option.bind_some] at hi hz
    obtain ⟨z, hzz⟩ := Option.isSome_iff_exists.1 hz
    refine wp_buildSlice t e 1 _ ho _ ie z hu hie hzz (by rw [hi]; omega) (by rw [hi]; omega) ?_ h
    simp only [List.map_toArray, List.map_cons, List.map_nil, hx, hi]
    have := Great.fill_whole (s := n) hn [.agg cs] ((Array.range (1 * n)).map (z.cells[· % z.cells.size]!)) (fun v hv => by simp only [List.mem_singleton] at hv; subst hv; simp [Value.cells, hcs]) (by simp)
    simpa [Value.cells] using this
end

section
variable {P : Program} {Q : Exit → Act → World → Prop} {S : World → Prop} {a : Act} {w : World} {fuel : Nat} {listed : Array Bool} {i : Nat} {o : Oper} {tl l : List Oper} (hi : l.drop i = o :: tl) (hg : Region.wanted o (yielded l.toArray a.tmps) = true) (hs : Region.noSelect l.toArray = true) (hf : Region.free .any l.toArray listed i = true) (hr : (Region.ready .any l.toArray listed).contains i = true) (hS : S w)
include hi hg hs hf hr hS
theorem t_load1 (ty : TypeId) (x : Operand) (ho : o.op = .load ty x) (b off : Nat) (hx : a.eval x = .pointer (some ⟨b, off, none⟩)) {d : TypeDesc} (v : Value) (hA : ∀ w, S w → w.cell? ⟨b, off, none⟩ = some v) (hu : P.underlying ty = some d) (hd : Step.oneD d = true)
    (h : wpAnyH P .any l.toArray (NoPanic Q) S fuel (listed.setIfInBounds i true) (a.put o.dst v) w) : wpAnyH P .any l.toArray (NoPanic Q) S (fuel + 1) listed a w :=
  Step.t_val hi hg hs hf hr hS v (fun w hw => by
    unfold execOp
    simp only [ho, hx, Instr.loadAt, Instr.sureAddr, Sem.run_bind, Sem.run_pure, Result.andThen_ok, Step.run_load1 ty b off hu hd (hA w hw)]) h
theorem t_add (t r : TypeId) (x y : Operand) (ho : o.op = .binOp .add t x y r) (s1 s2 : ByteArray) (hx : a.eval x = .string s1) (hy : a.eval y = .string s2) (hle : s1.size + s2.size ≤ 1000)
    (h : wpAnyH P .any l.toArray (NoPanic Q) S fuel (listed.setIfInBounds i true) (a.put o.dst (.string (s1 ++ s2))) w) : wpAnyH P .any l.toArray (NoPanic Q) S (fuel + 1) listed a w :=
  Step.t_val hi hg hs hf hr hS _ (fun w _ => by
    unfold execOp
    rw [ho]
    simp only [hx, hy]
    simp [go_sem, Op.stringOp]
    omega) h
theorem t_field (s : TypeId) (x : Operand) (f : Nat) (ho : o.op = .fieldAddr s x f) (b off : Nat) (hx : a.eval x = .pointer (some ⟨b, off, none⟩)) {fs : Array Field} {fd : Field} (hu : P.underlying s = some (.struct fs)) (hfd : fs[f]? = some fd) {sz : Nat} (hi' : (P.info? fd.type).map (·.size) = some sz) (hsz : sz ≠ 0) (off2 : Nat) (ho2 : off + fd.offset = off2)
    (h : wpAnyH P .any l.toArray (NoPanic Q) S fuel (listed.setIfInBounds i true) (a.put o.dst (.pointer (some ⟨b, off2, none⟩))) w) : wpAnyH P .any l.toArray (NoPanic Q) S (fuel + 1) listed a w :=
  Step.t_val hi hg hs hf hr hS _ (fun w _ => by
    subst ho2
    unfold execOp
    simp only [ho, hx, Sem.run_bind, Step.run_field0 s b off f hu hfd hi' hsz, Result.andThen_ok, Sem.run_pure]) h
end
theorem five_new (w : World) (cs : Array Value) (t : TypeId) : ∀ j u, cs.toList[j]? = some u → (w.alloc (.cells cs t)).cell? ((⟨w.heap.size, 0, none⟩ : Addr).add j) = some u := by
  intro j u hj
  rw [Addr.add_mid, Nat.zero_add, cell_of_row _ _ j cs t _ (heap_alloc_new w _)]
  simpa using hj
theorem pre_cell {w : World} {b : Nat} {t : TypeId} {k : Nat} (h : w.heap[b]? = some (.cells #[.string (pre 0), .string (pre 1), .string (pre 2)] t (0, 0))) (hk : k < 3) : w.cell? ⟨b, 0 + k * 1, none⟩ = some (.string (pre k)) := by
  rw [cell_of_row w b _ _ _ _ h]
  match k, hk with
  | 0, _ => rfl
  | 1, _ => rfl
  | 2, _ => rfl

set_option maxRecDepth 100000 in
set_option maxHeartbeats 4000000 in
theorem rows_any (w : World) (hM : Modes w) : Calls Tryz.prog 42 #[] w fun e w' => ∃ v xs, e = .returned v ∧ w'.ownsRow w.heap.size 45 5 v 52 xs ∧ RowsOk xs 52 ∧ Below w.heap.size w w' := by
  have HM := Lib.hid hM
  obtain ⟨i0, hi, hz0, hz1, hz2⟩ := info_parts' row_info
  have hi4 : (Tryz.prog.info? 116).map (·.size) = some 4 := by kernel_rfl
  obtain ⟨gm, om, cm, s0, s2, s3, s4⟩ := HM.out.h
  have HS4 := Lib.hid s4
  have HS0 := Lib.hid s0
  have s3' : cm ≤ 9223372036854775807 := s3
  clear s4 hM s0
  go_enter Tryz.func42, Tryz.ntmps42
  go_upto_region 3 with fail
  have HO : Hid ((w.alloc (.cells #[.string ⟨#[110, 117, 108, 108]⟩, .string ⟨#[110, 117, 108, 108]⟩, .string ⟨#[]⟩, .int .i64 0, .int .i64 0] 45)).ownsRow w.heap.size 45 5 (.slice (some ⟨w.heap.size, 0, none⟩) 1 1) 1 _) := Lib.hid (World.ownsRow_lit w #[.string ⟨#[110, 117, 108, 108]⟩, .string ⟨#[110, 117, 108, 108]⟩, .string ⟨#[]⟩, .int .i64 0, .int .i64 0] 1 (Nat.le_refl _) (by unfold maxLen; omega) rfl)
  have HO1 := Lib.hid (HO.out.alloc (.cells #[.string ⟨#[97, 101, 115, 49, 50, 56, 45]⟩, .string ⟨#[97, 101, 115, 49, 57, 50, 45]⟩, .string ⟨#[97, 101, 115, 50, 53, 54, 45]⟩] 9))
  have HB := Lib.hid (((Below.refl w.heap.size w).alloc (Nat.le_refl _) (.cells #[.string ⟨#[110, 117, 108, 108]⟩, .string ⟨#[110, 117, 108, 108]⟩, .string ⟨#[]⟩, .int .i64 0, .int .i64 0] 45)).alloc (by simp) (.cells #[.string ⟨#[97, 101, 115, 49, 50, 56, 45]⟩, .string ⟨#[97, 101, 115, 49, 57, 50, 45]⟩, .string ⟨#[97, 101, 115, 50, 53, 54, 45]⟩] 9))
  have HN : Hid (((w.alloc (.cells #[.string ⟨#[110, 117, 108, 108]⟩, .string ⟨#[110, 117, 108, 108]⟩, .string ⟨#[]⟩, .int .i64 0, .int .i64 0] 45)).alloc (.cells #[.string ⟨#[97, 101, 115, 49, 50, 56, 45]⟩, .string ⟨#[97, 101, 115, 49, 57, 50, 45]⟩, .string ⟨#[97, 101, 115, 50, 53, 54, 45]⟩] 9)).heap[w.heap.size + 1]? = some (.cells #[.string (pre 0), .string (pre 1), .string (pre 2)] 9 (0, 0))) := Lib.hid (by
    have := heap_alloc_new (w.alloc (.cells #[.string ⟨#[110, 117, 108, 108]⟩, .string ⟨#[110, 117, 108, 108]⟩, .string ⟨#[]⟩, .int .i64 0, .int .i64 0] 45)) (.cells #[.string ⟨#[97, 101, 115, 49, 50, 56, 45]⟩, .string ⟨#[97, 101, 115, 49, 57, 50, 45]⟩, .string ⟨#[97, 101, 115, 50, 53, 54, 45]⟩] 9)
    simp only [World.size_alloc] at this
    exact this)
  clear HO
  generalize (w.alloc (.cells #[.string ⟨#[110, 117, 108, 108]⟩, .string ⟨#[110, 117, 108, 108]⟩, .string ⟨#[]⟩, .int .i64 0, .int .i64 0] 45)).alloc (.cells #[.string ⟨#[97, 101, 115, 49, 50, 56, 45]⟩, .string ⟨#[97, 101, 115, 49, 57, 50, 45]⟩, .string ⟨#[97, 101, 115, 50, 53, 54, 45]⟩] 9) = w1 at *
  go_wp2
  go_loopw [3, 1] (fun i v wr => ∃ (k : Nat) (xs : List Value), k ≤ 3 ∧ i = .int .i64 k ∧ wr.ownsRow w.heap.size 45 5 v (1 + 17 * k) xs ∧ RowsOk xs (1 + 17 * k) ∧ wr.heap[w.heap.size + 1]? = some (.cells #[.string (pre 0), .string (pre 1), .string (pre 2)] 9 (0, 0)) ∧ Below w.heap.size w wr) (fun i _ _ => 3 - (Lib.intOf i).toNat)
  case atStart => exact ⟨0, _, by omega, rfl, HO1.out, (fun t ht c hc => by
    have h0 : t = 0 := by omega
    subst h0
    match c, hc with
    | 0, _ => rfl
    | 1, _ => rfl
    | 2, _ => rfl
    | 3, _ => rfl
    | 4, _ => rfl), HN.out, HB.out⟩
  case round =>
    obtain ⟨k, xs, hk, rfl, hown, hrows, hn, hb⟩ := hrel
    have HO2 := Lib.hid hown
    have HR2 := Lib.hid hrows
    have HN2 := Lib.hid hn
    have HB2 := Lib.hid hb
    clear hown hrows hn hb HO1 HB HN
    by_cases hlt : k < 3
    · go_wp2
      go_loopw [5, 1] (fun i v wx => ∃ (j : Nat) (xs : List Value), j ≤ 17 ∧ i = .int .i64 j ∧ wx.ownsRow w.heap.size 45 5 v (1 + 17 * k + j) xs ∧ RowsOk xs (1 + 17 * k + j) ∧ wx.heap[w.heap.size + 1]? = some (.cells #[.string (pre 0), .string (pre 1), .string (pre 2)] 9 (0, 0)) ∧ Below w.heap.size w wx) (fun i _ _ => 17 - (Lib.intOf i).toNat)
      case atStart => exact ⟨0, xs, by omega, rfl, HO2.out, HR2.out, HN2.out, HB2.out⟩
      case round =>
        obtain ⟨j, ys, hj, rfl, hown, hrows, hn, hb⟩ := hrel
        have HO3 := Lib.hid hown
        have HR3 := Lib.hid hrows
        have HO3L := Lib.hid hown.1
        have HN3 := Lib.hid hn
        have HB3 := Lib.hid hb
        have s1 := (HB3.out.cell (Frame.block_lt HS0.out)).trans HS0.out
        clear hown hrows hn hb HO2 HR2 HN2 HB2
        by_cases hlj : j < 17
        · obtain ⟨c0, c1, c2, c3⟩ := HS4.out j hlj
          obtain ⟨mlo, mhi⟩ := moT_bd j hlj
          have hsz : (if moT j < 0 then 2 * (16 + 8 * (k : Int)) else 16 + 8 * (k : Int) + moT j) = szT k j := rfl
          have RA := Lib.hid (rowL_at k j hlj)
          generalize szT k j = sz at *
          generalize moT j = mo at *
          generalize mdT j = md at *
          generalize stT j = st at *
          have HZ := Lib.hid hsz
          clear hsz
          have d0 := (HB3.out.cell (Frame.block_lt c0)).trans c0
          have d1 := (HB3.out.cell (Frame.block_lt c1)).trans c1
          have d2 := (HB3.out.cell (Frame.block_lt c2)).trans c2
          have d3 := (HB3.out.cell (Frame.block_lt c3)).trans c3
          clear c0 c1 c2 c3
          have HO4 := Lib.hid (HO3.out.alloc (.cells #[.string (nm j), .string md, .string st, .int .i64 mo] 116))
          have HB4 := Lib.hid (HB3.out.alloc HB3.out.size (.cells #[.string (nm j), .string md, .string st, .int .i64 mo] 116))
          have HS : Hid (RS (w.heap.size + 1) wr.heap.size j md st mo (wr.alloc (.cells #[.string (nm j), .string md, .string st, .int .i64 mo] 116))) := Lib.hid ⟨(heap_alloc_old wr _ (Array.getElem?_eq_some_iff.1 HN3.out).1).trans HN3.out, heap_alloc_new wr _⟩
          by_cases hmo : mo < 0
          all_goals
            go_upto_region 14 with fail
            clear d0 d1 d2 d3 s1 HO3 HB3 HN3
            generalize wr.alloc (.cells #[.string (nm j), .string md, .string st, .int .i64 mo] 116) = w4 at *
            generalize wr.heap.size = bm at *
            refine Step.begin_ (S := RS (w.heap.size + 1) bm j md st mo) 18 rfl (by kernel_rfl) ⟨HS.out.n, HS.out.m⟩ ?_
            intro hS
            have SX := Lib.hid hS
            clear hS
            simp only [hmo, if_true, if_false] at HZ
            refine Step.t_move (i := 0) rfl rfl (by kernel_rfl) (by kernel_rfl) (by kernel_rfl) SX.out _ rfl _ rfl ?_
            simp only [Act.put, List.setIfInBounds_toArray, List.set_cons_zero, List.set_cons_succ]
            refine Step.t_move (i := 1) rfl rfl (by kernel_rfl) (by kernel_rfl) (by kernel_rfl) SX.out _ rfl (.slice (some ⟨w.heap.size + 1, 0, none⟩) 3 3) rfl ?_
            simp only [Act.put, List.setIfInBounds_toArray, List.set_cons_zero, List.set_cons_succ]
            refine Step.t_move (i := 2) rfl rfl (by kernel_rfl) (by kernel_rfl) (by kernel_rfl) SX.out _ rfl (.int .i64 k) rfl ?_
            simp only [Act.put, List.setIfInBounds_toArray, List.set_cons_zero, List.set_cons_succ]
            refine Step.t_index (i := 3) rfl rfl (by kernel_rfl) (by kernel_rfl) (by kernel_rfl) SX.out _ _ _ _ rfl (w.heap.size + 1) 0 3 3 rfl k rfl hlt 1 Tryz.underlying50 (by kernel_rfl) ?_
            simp only [Act.put, List.setIfInBounds_toArray, List.set_cons_zero, List.set_cons_succ]
            refine t_load1 (i := 4) rfl rfl (by kernel_rfl) (by kernel_rfl) (by kernel_rfl) SX.out _ _ rfl (w.heap.size + 1) (0 + k * 1) rfl (.string (pre k)) (fun w' hw' => pre_cell hw'.n hlt) Tryz.underlying9 rfl ?_
            simp only [Act.put, List.setIfInBounds_toArray, List.set_cons_zero, List.set_cons_succ]
            refine t_field (i := 5) rfl rfl (by kernel_rfl) (by kernel_rfl) (by kernel_rfl) SX.out _ _ _ rfl bm 0 rfl Tryz.underlying116 rfl (sz := 1) (by kernel_rfl) (by decide) 0 rfl ?_
            simp only [Act.put, List.setIfInBounds_toArray, List.set_cons_zero, List.set_cons_succ]
            refine t_load1 (i := 6) rfl rfl (by kernel_rfl) (by kernel_rfl) (by kernel_rfl) SX.out _ _ rfl bm 0 rfl (.string (nm j)) (fun w' hw' => by rw [cell_of_row w' bm 0 _ _ _ hw'.m]; rfl) Tryz.underlying9 rfl ?_
            simp only [Act.put, List.setIfInBounds_toArray, List.set_cons_zero, List.set_cons_succ]
            refine t_add (i := 7) rfl rfl (by kernel_rfl) (by kernel_rfl) (by kernel_rfl) SX.out _ _ _ _ rfl (pre k) (nm j) rfl rfl (by have := pre_size k hlt; have := nm_size j hlj; omega) ?_
            simp only [Act.put, List.setIfInBounds_toArray, List.set_cons_zero, List.set_cons_succ]
            refine t_field (i := 8) rfl rfl (by kernel_rfl) (by kernel_rfl) (by kernel_rfl) SX.out _ _ _ rfl bm 0 rfl Tryz.underlying116 rfl (sz := 1) (by kernel_rfl) (by decide) 1 rfl ?_
            simp only [Act.put, List.setIfInBounds_toArray, List.set_cons_zero, List.set_cons_succ]
            refine t_load1 (i := 9) rfl rfl (by kernel_rfl) (by kernel_rfl) (by kernel_rfl) SX.out _ _ rfl bm 1 rfl (.string md) (fun w' hw' => by rw [cell_of_row w' bm 1 _ _ _ hw'.m]; rfl) Tryz.underlying9 rfl ?_
            simp only [Act.put, List.setIfInBounds_toArray, List.set_cons_zero, List.set_cons_succ]
            refine t_field (i := 10) rfl rfl (by kernel_rfl) (by kernel_rfl) (by kernel_rfl) SX.out _ _ _ rfl bm 0 rfl Tryz.underlying116 rfl (sz := 1) (by kernel_rfl) (by decide) 2 rfl ?_
            simp only [Act.put, List.setIfInBounds_toArray, List.set_cons_zero, List.set_cons_succ]
            refine t_load1 (i := 11) rfl rfl (by kernel_rfl) (by kernel_rfl) (by kernel_rfl) SX.out _ _ rfl bm 2 rfl (.string st) (fun w' hw' => by rw [cell_of_row w' bm 2 _ _ _ hw'.m]; rfl) Tryz.underlying9 rfl ?_
            simp only [Act.put, List.setIfInBounds_toArray, List.set_cons_zero, List.set_cons_succ]
            refine Step.t_move (i := 12) rfl rfl (by kernel_rfl) (by kernel_rfl) (by kernel_rfl) SX.out _ rfl (.int .i64 (16 + 8 * (k : Int))) rfl ?_
            simp only [Act.put, List.setIfInBounds_toArray, List.set_cons_zero, List.set_cons_succ]
            refine Step.t_move (i := 13) rfl rfl (by kernel_rfl) (by kernel_rfl) (by kernel_rfl) SX.out _ rfl (.int .i64 sz) (by rw [← HZ.out]; rfl) ?_
            simp only [Act.put, List.setIfInBounds_toArray, List.set_cons_zero, List.set_cons_succ]
            refine Step.t_val (i := 14) rfl rfl (by kernel_rfl) (by kernel_rfl) (by kernel_rfl) SX.out (.agg #[.string (pre k ++ nm j), .string md, .string st, .int .i64 (16 + 8 * (k : Int)), .int .i64 sz]) (fun w' _ => by unfold execOp; go_simp) ?_
            simp only [Act.put, List.setIfInBounds_toArray, List.set_cons_zero, List.set_cons_succ]
            refine Step.t_one (i := 15) rfl rfl (by kernel_rfl) ?_
            refine w_oneC _ _ _ rfl #[.string (pre k ++ nm j), .string md, .string st, .int .i64 (16 + 8 * (k : Int)), .int .i64 sz] (n := 5) rfl rfl Tryz.underlying81 (by kernel_rfl) (by kernel_rfl) (by decide) (by decide) ?_
            refine ⟨SX.out.alloc _, ?_⟩
            simp only [Act.put, List.setIfInBounds_toArray, List.set_cons_zero, List.set_cons_succ]
            have HO5 : Hid ((w4.drew.alloc (.cells #[.string (pre k ++ nm j), .string md, .string st, .int .i64 (16 + 8 * (k : Int)), .int .i64 sz] 45)).ownsRow w.heap.size 45 5 u1 (1 + 17 * k + j) ys) := Lib.hid (World.ownsRow.alloc (w := w4.drew) (HO4.out.drew) _)
            have HB5 : Hid (Below w.heap.size w (w4.drew.alloc (.cells #[.string (pre k ++ nm j), .string md, .string st, .int .i64 (16 + 8 * (k : Int)), .int .i64 sz] 45))) := Lib.hid (HB4.out.drew.alloc (by have := HB4.out.size; exact this) _)
            have SX5 := Lib.hid (SX.out.alloc (.cells #[.string (pre k ++ nm j), .string md, .string st, .int .i64 (16 + 8 * (k : Int)), .int .i64 sz] 45))
            refine Step.t_one (i := 16) rfl rfl (by kernel_rfl) ?_
            refine Step.w_append _ _ 81 rfl w.heap.size 45 i0 (.agg #[.string ⟨#[]⟩, .string ⟨#[]⟩, .string ⟨#[]⟩, .int .i64 0, .int .i64 0]) 5 64 Tryz.underlying81 hi hz0 hz1 hz2 rfl (by decide) u1 (1 + 17 * k + j) ys rfl HO5.out ⟨w4.drew.heap.size, 0, none⟩ 1 1 [.string (pre k ++ nm j), .string md, .string st, .int .i64 (16 + 8 * (k : Int)), .int .i64 sz] rfl rfl (five_new _ _ _) (by intro u hu; simp at hu; rcases hu with rfl | rfl | rfl | rfl | rfl <;> rfl) (by unfold maxLen; omega) (by omega) HB5.out.size ?_
            intro v' w5 hown hgrow _ _
            have S6 : RS (w.heap.size + 1) bm j md st mo w5 := ⟨(hgrow.block _ (Array.getElem?_eq_some_iff.1 SX5.out.n).1 (own_ne HO5.out SX5.out.n (by decide))).trans SX5.out.n, (hgrow.block _ (Array.getElem?_eq_some_iff.1 SX5.out.m).1 (own_ne HO5.out SX5.out.m (by decide))).trans SX5.out.m⟩
            have SX6 := Lib.hid S6
            rw [← RA.out] at hown
            have HO6 := Lib.hid hown
            have HB6 := Lib.hid (HB5.out.grown hgrow HB5.out.size (fun b hb => (HO5.out.lt b hb).1))
            refine ⟨S6, ?_⟩
            simp only [Act.put, List.setIfInBounds_toArray, List.set_cons_zero, List.set_cons_succ]
            clear S6 hown hgrow HO5 HB5 SX5 SX HO4 HB4 HS
            refine Step.t_assign (i := 17) rfl rfl (by kernel_rfl) (by kernel_rfl) (by kernel_rfl) SX6.out _ rfl v' rfl ?_
            simp only [Act.put, List.setIfInBounds_toArray, List.set_cons_zero, List.set_cons_succ]
            refine Step.t_end (by kernel_rfl) ?_
            go_wp2
            go_roundw
            case rel => exact ⟨j + 1, _, by omega, rfl, HO6.out, rows_succ HR3.out HO3L.out, SX6.out.n, HB6.out⟩
            case measure => simp [Lib.intOf]; omega
        · obtain rfl : j = 17 := by omega
          clear s1
          have s1' := (HB3.out.cell (Frame.block_lt HS0.out)).trans HS0.out
          go_wp2
          go_roundw
          case rel => exact ⟨k + 1, ys, by omega, rfl, by rw [show 1 + 17 * (k + 1) = 1 + 17 * k + 17 by omega]; exact HO3.out, by rw [show 1 + 17 * (k + 1) = 1 + 17 * k + 17 by omega]; exact HR3.out, HN3.out, HB3.out⟩
          case measure => simp [Lib.intOf]; omega
    · obtain rfl : k = 3 := by omega
      go_wp2
      go_ret
      exact ⟨_, _, rfl, HO2.out, HR2.out, HB2.out⟩
end Go.Proofs.YtmifebcaifbmoaaGreatDoor.Tab
end
