/- cofferlaw13.roomy: metadata in new memory, two marks behind each list. -/
import Derived.Test.YtfchbodbkdkcfaaDoorCopy
namespace Go.Proofs.YtfchbodbkdkcfaaDoor.Meta
open Go.RowKit Go.Lib Go.Proofs.YtfchbodbkdkcfaaDoor.Coll

def mS13 : List Value := [.int .i64 501, .int .i64 0, .int .i64 0, .int .i64 0, .string ⟨#[]⟩, .string ⟨#[]⟩, .int .i64 0, .int .i64 0, .int .i64 0, .int .i64 502, .int .i64 0, .int .i64 0, .int .i64 0, .string ⟨#[]⟩, .string ⟨#[]⟩, .int .i64 0, .int .i64 0, .int .i64 0]
def mE13 : List Value := [.int .u64 501, .string ⟨#[]⟩, .string ⟨#[]⟩, .string ⟨#[]⟩, .string ⟨#[]⟩, .int .u64 502, .string ⟨#[]⟩, .string ⟨#[]⟩, .string ⟨#[]⟩, .string ⟨#[]⟩]
def mG13 : List Value := [.int .u64 0, .int .u64 0, .int .u64 501, .int .u64 0, .int .u64 0, .int .u64 502]
def mT13 : List Value := [.int .i64 501, .string ⟨#[]⟩, .slice none 0 0, .string ⟨#[]⟩, .int .i64 502, .string ⟨#[]⟩, .slice none 0 0, .string ⟨#[]⟩]
section
variable {P : Program} {Q : Exit → Act → World → Prop} {o : Oper} {a : Act} {w : World}
theorem w_twoC {K : Act → World → Prop} (t e : TypeId) (x y : Operand) (ho : o.op = .buildSlice t 2 #[(0, x), (1, y)]) (c1 c2 : Array Value) {n : Nat} (h1 : c1.size = n) (h2 : c2.size = n)
    (hx : a.eval x = .agg c1) (hy : a.eval y = .agg c2) (hu : P.underlying t = some (.slice e)) (hi : (P.info? e).map (·.size) = some n) (hz : ((P.info? e).bind (·.zero)).isSome = true) (hn : 0 < n) (hn2 : 2 * n ≤ 2 ^ 24)
    (h : K (a.put o.dst (.slice (some ⟨w.heap.size, 0, none⟩) 2 2)) (w.alloc (.cells (c1 ++ c2) e))) : o.wp P a w K Q := by
  cases hie : P.info? e with
  | none => simp [hie] at hi
  | some ie =>
    simp only [hie, Option.map_some, Option.some.injEq, Option.bind_some] at hi hz
    obtain ⟨z, hzz⟩ := Option.isSome_iff_exists.1 hz
    rw [show c1 ++ c2 = (c1.toList ++ c2.toList).toArray by simp] at h
    refine wp_buildSlice t e 2 _ ho _ ie z hu hie hzz (by rw [hi]; omega) (by rw [hi]; omega) ?_ h
    simp only [List.map_toArray, List.map_cons, List.map_nil, hx, hy, hi]
    have := Great.fill_whole (s := n) hn [.agg c1, .agg c2] ((Array.range (2 * n)).map (z.cells[· % z.cells.size]!)) (fun v hv => by
      simp only [List.mem_cons, List.not_mem_nil, or_false] at hv
      rcases hv with rfl | rfl <;> simp [Value.cells, h1, h2]) (by simp)
    simpa [Value.cells] using this
theorem p_two {ops : Array Oper} {rest : List Oper} (hg : Region.wanted o (yielded ops a.tmps) = true) (t e : TypeId) (x y : Operand) (ho : o.op = .buildSlice t 2 #[(0, x), (1, y)]) (c1 c2 : Array Value) {n : Nat} (h1 : c1.size = n) (h2 : c2.size = n)
    (hx : a.eval x = .agg c1) (hy : a.eval y = .agg c2) (hu : P.underlying t = some (.slice e)) (hi : (P.info? e).map (·.size) = some n) (hz : ((P.info? e).bind (·.zero)).isSome = true) (hn : 0 < n) (hn2 : 2 * n ≤ 2 ^ 24)
    (h : wpList P ops Q rest (a.put o.dst (.slice (some ⟨w.heap.size, 0, none⟩) 2 2)) (w.alloc (.cells (c1 ++ c2) e))) : wpList P ops Q (o :: rest) a w :=
  Step.p_wp hg (w_twoC t e x y ho c1 c2 h1 h2 hx hy hu hi hz hn hn2 h)
theorem w_load1 {K : Act → World → Prop} (ty : TypeId) (x : Operand) (ho : o.op = .load ty x) (b off : Nat) (hx : a.eval x = .pointer (some ⟨b, off, none⟩)) {d : TypeDesc} (v : Value) (hA : w.cell? ⟨b, off, none⟩ = some v) (hu : P.underlying ty = some d) (hd : Step.oneD d = true)
    (h : K (a.put o.dst v) w) : o.wp P a w K Q :=
  Step.w_run v w (by
    unfold execOp
    simp only [ho, hx, Instr.loadAt, Instr.sureAddr, Sem.run_bind, Sem.run_pure, Result.andThen_ok, Step.run_load1 ty b off hu hd hA]) h
end
/-- the result's and the copy's blocks -/
structure RB (b n0 : Nat) (cn : Array Value) (w : World) : Prop where
  res : w.heap[b]? = some (.cells metaZ 56 (0, 0))
  n : w.heap[n0]? = some (.cells cn 56 (0, 0))
  ne : b ≠ n0
def OffM (w : World) (ob : Option Nat) : Prop := ∀ x, ob = some x → ∃ cur e fz, w.heap[x]? = some (.cells cur e fz) ∧ e ≠ 56
theorem OffM.none {w : World} : OffM w none := fun _ h => by cases h
theorem own_offM {w : World} {B : Nat} {e : TypeId} {size n : Nat} {v : Value} {xs : List Value} (h : w.ownsRow B e size v n xs) (he : e ≠ 56) : OffM w v.ownBlock := fun b hb => by
  rcases h.2 with ⟨rfl, _⟩ | ⟨g, cap, cur, rfl, _, h2, _⟩
  · cases hb
  · obtain rfl : g = b := by simpa [Value.ownBlock] using hb
    exact ⟨cur, _, _, h2, he⟩
theorem RB.step {b n0 : Nat} {cn : Array Value} {w w' : World} (h : RB b n0 cn w) {ob : Option Nat} (hg : w.grownBy w' ob) (ho : OffM w ob) : RB b n0 cn w' := by
  have ne : ∀ g c, w.heap[g]? = some (.cells c 56 (0, 0)) → some g ≠ ob := fun g c hc e => by
    obtain ⟨cur, e2, fz, h2, h3⟩ := ho g e.symm
    rw [hc] at h2
    cases h2
    exact h3 rfl
  exact ⟨(hg.block _ (Array.getElem?_eq_some_iff.1 h.res).1 (ne _ _ h.res)).trans h.res, (hg.block _ (Array.getElem?_eq_some_iff.1 h.n).1 (ne _ _ h.n)).trans h.n, h.ne⟩
theorem RB.set {b n0 : Nat} {cn : Array Value} {w : World} (h : RB b n0 cn w) (off : Nat) (v : Value) : RB b n0 (cn.setIfInBounds off v) (w.setCell ⟨n0, off, none⟩ v) :=
  ⟨(heap_setCell_other w _ _ _ h.ne).trans h.res, heap_setCell_same w _ off _ _ _ h.n, h.ne⟩
theorem RB.off {b n0 : Nat} {cn : Array Value} {w : World} (h : RB b n0 cn w) {e : TypeId} (he : 56 ≠ e) (lo : Nat) : Off w lo e (some n0) := fun x hx => by
  cases hx
  exact .inr ⟨_, _, _, h.n, he⟩
theorem own_il {w : World} {B n cap : Nat} {q : Option Addr} {f : Nat → Int} (h : w.ownsRow B 3 1 (.slice q n cap) n (intC f n)) : n ≤ cap ∧ (q = none → n = 0 ∧ cap = 0) ∧ Tok.IL w q n f := by
  rcases h.2 with ⟨h1, h0⟩ | ⟨g, c, cur, h1, _, _, hn, _⟩
  · simp only [Value.slice.injEq] at h1
    obtain ⟨rfl, rfl, rfl⟩ := h1
    exact ⟨Nat.le_refl _, fun _ => ⟨rfl, rfl⟩, fun i hi => by omega⟩
  · simp only [Value.slice.injEq, true_and] at h1
    obtain ⟨rfl, rfl⟩ := h1
    refine ⟨hn, (fun e => by cases e), fun i hi => ⟨g, 0, rfl, ?_⟩⟩
    rw [Nat.zero_add, h.cellAt i (by omega)]
    simp [intC, hi]
theorem MIn.gb {w w' : World} {m : MetaD} {p : Places} (h : MIn w m p) (hg : w.grownBy w' none) : MIn w' m p :=
  ⟨⟨h.s.lv.grown hg, h.s.le, h.s.max, h.s.nil, h.s.reach⟩, ⟨h.e.lv.grown hg, h.e.le, h.e.max, h.e.nil, h.e.reach⟩, ⟨h.g.lv.grown hg, h.g.le, h.g.max, h.g.nil, h.g.reach⟩, ⟨h.t.lv.grown hg, h.t.le, h.t.max, h.t.nil, h.t.reach⟩, fun x hx => by
    obtain ⟨a, b, c, d, e⟩ := h.tok x hx
    exact ⟨a, b, c, d.below (below_of_gb hg), e⟩⟩
/-- between the rounds of roomy's tokens -/
structure RW (B : Nat) (w1 : World) (m : MetaD) (T : List TokD) (qs qe qg : Option Addr) (ks ke kg gt kt : Nat) (k : Nat) (R : List TokD) (wr : World) : Prop where
  gr : w1.grownBy wr none
  s : Marked B wr 90 9 qs ks m.slots.length 2 (m.slots.flatMap slotC) mS13
  e : Marked B wr 64 5 qe ke m.epochs.length 2 (m.epochs.flatMap epochC) mE13
  g : Marked B wr 92 3 qg kg m.segs.length 2 (m.segs.flatMap sgC) mG13
  t : Marked B wr 41 4 (some ⟨gt, 0, none⟩) kt m.toks.length 2 (R.flatMap tokC) mT13
  len : R.length = m.toks.length
  tok : ∀ i (h : i < m.toks.length) (h2 : i < R.length), i < k → TokRel (gt + 1) wr (m.toks[i]'h) (R[i]'h2)
  cp : ∀ i (h : i < m.toks.length) (h2 : i < T.length), TokCp B wr (m.toks[i]'h) (T[i]'h2)
  old : ∀ i, k ≤ i → R[i]? = T[i]?
theorem RW.step {B : Nat} {w1 : World} {m : MetaD} {T : List TokD} {qs qe qg : Option Addr} {ks ke kg gt kt k : Nat} {R : List TokD} {wr w' : World} (h : RW B w1 m T qs qe qg ks ke kg gt kt k R wr) (hg : wr.grownBy w' none) : RW B w1 m T qs qe qg ks ke kg gt kt k R w' :=
  ⟨Tree.grown_trans h.gr hg (by simp), h.s.grown hg .none, h.e.grown hg .none, h.g.grown hg .none, h.t.grown hg .none, h.len, fun i a b c => (h.tok i a b c).grown hg (by simp), fun i a b => (h.cp i a b).off hg .none, h.old⟩
/-- a token's slots are laid anew -/
theorem RW.store {B : Nat} {w1 : World} {m : MetaD} {T : List TokD} {qs qe qg : Option Addr} {ks ke kg gt kt k : Nat} {R : List TokD} {wr : World} (h : RW B w1 m T qs qe qg ks ke kg gt kt k R wr) (hB : w1.heap.size ≤ B) (hk : k < m.toks.length) (hT : T.length = m.toks.length)
    {gi c : Nat} (hgi : gt < gi) (hgs : gi < wr.heap.size) (hc : (m.toks[k]'hk).n + 70 ≤ c) (hcm : c ≤ maxLen) (hrow : ∀ j, j < (m.toks[k]'hk).n + 70 → wr.cell? ⟨gi, j, none⟩ = (Tok.row (m.toks[k]'hk).n (m.toks[k]'hk).f 70)[j]?) :
    RW B w1 m T qs qe qg ks ke kg gt kt (k + 1) (setTok R k (some ⟨gi, 0, none⟩) c) (wr.setCell ⟨gt, k * 4 + 2, none⟩ (.slice (some ⟨gi, 0, none⟩) (m.toks[k]'hk).n c)) := by
  have hkR : k < R.length := by rw [h.len]; exact hk
  have hkT : k < T.length := by rw [hT]; exact hk
  have hRk : R[k]'hkR = T[k]'hkT := by
    have := h.old k (Nat.le_refl _)
    rw [List.getElem?_eq_getElem hkR, List.getElem?_eq_getElem hkT] at this
    exact Option.some.inj this
  have hcp := h.cp k hk hkT
  rw [← hRk] at hcp
  obtain ⟨h1, h2⟩ := h.t.own.stored (k * 4 + 2) (.slice (some ⟨gi, 0, none⟩) (m.toks[k]'hk).n c)
  have hgB : B ≤ gt := (Step.own_lt h.t.own (g := gt) rfl).1
  have hfl : (R.flatMap tokC).length = R.length * 4 := flat_len (sz := 4) (fun _ => rfl) R
  rw [List.set_append_left _ _ (by rw [hfl]; omega), ← hcp.n, ← setTok_flat R k _ c hkR] at h1
  have off : ∀ {e : TypeId}, 41 ≠ e → Off wr B e (some gt) := fun he => own_typed h.t.own he B
  refine ⟨Tree.grown_trans h.gr h2 (fun b hb => by cases hb; omega), h.s.grown h2 (off (by decide)), h.e.grown h2 (off (by decide)), h.g.grown h2 (off (by decide)), ⟨h.t.ad, by rw [hcp.n] at h1; exact h1, h.t.room, h.t.max⟩, by rw [setTok_len, h.len], fun i hi hi2 hik => ?_, fun i a b => (h.cp i a b).off h2 (off (by decide)), fun i hi => ?_⟩
  · by_cases e : i = k
    · subst e
      rw [setTok_at R i _ c hkR]
      refine ⟨hcp.num, hcp.kind, hcp.note, hcp.n, hcp.f, ⟨gi, rfl, by show gt + 1 ≤ gi; omega, by simpa using hgs, fun j hj => ?_⟩, hc, hcm⟩
      rw [← hrow j hj]
      exact World.cell?_of_block (heap_setCell_other _ _ _ _ (by show gi ≠ gt; omega))
    · have hi3 : i < R.length := by rw [h.len]; exact hi
      have e2 : (setTok R k (some ⟨gi, 0, none⟩) c)[i]'hi2 = R[i]'hi3 := by
        have := setTok_ne R k i (some ⟨gi, 0, none⟩) c e
        rw [List.getElem?_eq_getElem hi2, List.getElem?_eq_getElem hi3] at this
        exact Option.some.inj this
      rw [e2]
      exact (h.tok i hi hi3 (by omega)).grown h2 (fun b hb => by cases hb; show gt < gt + 1; omega)
  · rw [setTok_ne R k i _ c (by omega)]
    exact h.old i (by omega)

set_option maxRecDepth 100000 in
set_option maxHeartbeats 8000000 in
theorem roomy_any (m : MetaD) (p : Places) (w : World) (h : MIn w m p) : Calls Tryd.prog 31 #[metaV m p] w fun e w' => ∃ m2 p2, e = .returned (metaV m2 p2) ∧ Twin w.heap.size 2 mS13 mE13 mG13 mT13 w' m m2 p2 ∧ Below w.heap.size w w' := by
  have HM := Lib.hid h
  clear h
  obtain ⟨i_slots, a1_slots, a2_slots, a3_slots, a4_slots⟩ := info_of (t := 90) (z := .agg #[.int .i64 0, .int .i64 0, .int .i64 0, .int .i64 0, .string ⟨#[]⟩, .string ⟨#[]⟩, .int .i64 0, .int .i64 0, .int .i64 0]) (s := 9) (b := 88) (by kernel_rfl)
  obtain ⟨i_epochs, a1_epochs, a2_epochs, a3_epochs, a4_epochs⟩ := info_of (t := 64) (z := .agg #[.int .u64 0, .string ⟨#[]⟩, .string ⟨#[]⟩, .string ⟨#[]⟩, .string ⟨#[]⟩]) (s := 5) (b := 72) (by kernel_rfl)
  obtain ⟨i_segs, a1_segs, a2_segs, a3_segs, a4_segs⟩ := info_of (t := 92) (z := .agg #[.int .u64 0, .int .u64 0, .int .u64 0]) (s := 3) (b := 24) (by kernel_rfl)
  obtain ⟨i_toks, a1_toks, a2_toks, a3_toks, a4_toks⟩ := info_of (t := 41) (z := .agg #[.int .i64 0, .string ⟨#[]⟩, .slice none 0 0, .string ⟨#[]⟩]) (s := 4) (b := 64) (by kernel_rfl)
  rw [metaV_eq]
  have hs27 : (metaA m p).size = 27 := rfl
  have hi27 : (Tryd.prog.info? 56).map (·.size) = some 27 := by kernel_rfl
  have V := Lib.hid (metaV_eq m p)
  generalize metaA m p = cs at *
  go_enter Tryd.func31, Tryd.ntmps31
  go_upto_region 1 with fail
  have o0 : ((w.alloc (.cells cs 56)).alloc (.cells metaZ 56)).heap[w.heap.size]? = some (.cells cs 56 (0, 0)) := by rw [heap_alloc_old _ _ (by simp)]; exact heap_alloc_new w _
  have o1 : ((w.alloc (.cells cs 56)).alloc (.cells metaZ 56)).heap[w.heap.size + 1]? = some (.cells metaZ 56 (0, 0)) := by
    have := heap_alloc_new (w.alloc (.cells cs 56)) (.cells metaZ 56)
    simpa using this
  have b1 : w.grownBy ((w.alloc (.cells cs 56)).alloc (.cells metaZ 56)) none := Tree.grown_trans (World.grownBy_alloc w _ none) (World.grownBy_alloc _ _ none) (by simp)
  have z1 : ((w.alloc (.cells cs 56)).alloc (.cells metaZ 56)).heap.size = w.heap.size + 2 := by simp
  unfold metaZ at o0 o1 b1 z1
  generalize (w.alloc (.cells cs 56)).alloc _ = w1 at *
  have B1 := Lib.hid b1
  have hcall := copy_any m p w1 (MIn.gb HM.out b1)
  rw [V.out] at hcall
  refine wp_region_lit ?_
  refine Tree.p_loadrow rfl _ _ rfl w.heap.size rfl o0 Tryd.underlying56 rfl (by rw [hs27]; exact hi27) ?_
  simp only [Act.put, List.setIfInBounds_toArray, List.set_cons_zero, List.set_cons_succ]
  refine Step.p_wp rfl (Step.w_callx 59 [.tmp 6] _ rfl Tryd.func59 (by kernel_rfl) rfl [.agg cs] rfl hcall ?_)
  rintro e w2 ⟨T, qs, ks, qe, ke, qg, kg, qt, kt, rfl, hcw⟩
  refine ⟨_, rfl, ?_⟩
  rw [metaV_eq]
  have hTl : T.length = m.toks.length := hcw.len
  have y11 : (metaA { m with toks := T } ⟨qs, ks, qe, ke, qg, kg, qt, kt⟩)[11]? = some (.slice qs m.slots.length ks) := rfl
  have y12 : (metaA { m with toks := T } ⟨qs, ks, qe, ke, qg, kg, qt, kt⟩)[12]? = some (.slice qe m.epochs.length ke) := rfl
  have y13 : (metaA { m with toks := T } ⟨qs, ks, qe, ke, qg, kg, qt, kt⟩)[13]? = some (.slice qg m.segs.length kg) := rfl
  have y26 : (metaA { m with toks := T } ⟨qs, ks, qe, ke, qg, kg, qt, kt⟩)[26]? = some (.slice qt m.toks.length kt) := by rw [← hTl]; rfl
  have hn27 : (metaA { m with toks := T } ⟨qs, ks, qe, ke, qg, kg, qt, kt⟩).size = 27 := rfl
  have hn1 : (metaA { m with toks := T } ⟨qs, ks, qe, ke, qg, kg, qt, kt⟩).all (·.oneCell') = true := by rw [← Array.all_toList]; rfl
  have HTl := Lib.hid hTl
  clear hTl hcall
  obtain ⟨cn, hcn⟩ : ∃ cn, metaA { m with toks := T } ⟨qs, ks, qe, ke, qg, kg, qt, kt⟩ = cn := ⟨_, rfl⟩
  rw [hcn] at y11 y12 y13 y26 hn27 hn1 ⊢
  have HCN := Lib.hid hcn
  clear hcn
  simp only [Act.put, List.setIfInBounds_toArray, List.set_cons_zero, List.set_cons_succ]
  refine Tree.p_new rfl 56 rfl (z := .agg metaZ) (by kernel_rfl) ?_
  simp only [Act.put, List.setIfInBounds_toArray, List.set_cons_zero, List.set_cons_succ]
  refine wpList_store_row rfl _ _ _ rfl w2.heap.size cn rfl rfl 56 metaZ (heap_alloc_new w2 _) (by rw [hn27]; exact hi27) (by rw [hn27]; rfl) hn1 ?_
  rw [show Value.cells (.agg metaZ) = metaZ from rfl, World.setRow_alloc_new]
  refine wpList_nil ?_
  simp only [Act.put]
  have ga : w2.grownBy (w2.alloc (.cells cn 56)) none := World.grownBy_alloc w2 _ none
  have hl1 : w.heap.size + 1 < w1.heap.size := by omega
  have rb : RB (w.heap.size + 1) w2.heap.size cn (w2.alloc (.cells cn 56)) := ⟨(ga.block _ (by have := hcw.gr.size; omega) (by simp)).trans ((hcw.gr.block _ hl1 (by simp)).trans o1), heap_alloc_new w2 _, by have := hcw.gr.size; omega⟩
  have c3 := hcw.step ga (by simp)
  have hn0 : w1.heap.size ≤ w2.heap.size := hcw.gr.size
  clear o0 o1 b1 hcw ga
  generalize w2.alloc (.cells cn 56) = w3 at *
  generalize w2.heap.size = n0 at *
  have gr := c3.gr
  have M_slots := c3.s
  have M_epochs := c3.e
  have M_segs := c3.g
  have M_toks := c3.t
  have hsz : w1.heap.size ≤ w3.heap.size := c3.sz
  have TC := Lib.hid c3.tok
  clear c3
  have yc : w3.cell? ⟨n0, 11, none⟩ = some (.slice qs m.slots.length ks) := (cell_of_row _ _ 11 _ _ _ rb.n).trans y11
  go_upto_region 3 with fail
  refine wp_region_lit ?_
  refine Tree.p_field rfl _ _ _ rfl n0 0 rfl Tryd.underlying56 rfl (sz := 1) (by kernel_rfl) (by decide) 11 rfl ?_
  simp only [Act.put, List.setIfInBounds_toArray, List.set_cons_zero, List.set_cons_succ]
  refine Tree.p_load1 rfl _ _ rfl n0 11 rfl (.slice qs m.slots.length ks) yc Tryd.underlying47 rfl ?_
  simp only [Act.put, List.setIfInBounds_toArray, List.set_cons_zero, List.set_cons_succ]
  refine Step.p_val rfl (.agg #[Value.int .i64 501, .int .i64 0, .int .i64 0, .int .i64 0, .string ⟨#[]⟩, .string ⟨#[]⟩, .int .i64 0, .int .i64 0, .int .i64 0]) (by unfold execOp; go_simp) ?_
  simp only [Act.put, List.setIfInBounds_toArray, List.set_cons_zero, List.set_cons_succ]
  refine Step.p_val rfl (.agg #[Value.int .i64 502, .int .i64 0, .int .i64 0, .int .i64 0, .string ⟨#[]⟩, .string ⟨#[]⟩, .int .i64 0, .int .i64 0, .int .i64 0]) (by unfold execOp; go_simp) ?_
  simp only [Act.put, List.setIfInBounds_toArray, List.set_cons_zero, List.set_cons_succ]
  refine p_two rfl 47 90 (.tmp 13) (.tmp 14) rfl #[Value.int .i64 501, .int .i64 0, .int .i64 0, .int .i64 0, .string ⟨#[]⟩, .string ⟨#[]⟩, .int .i64 0, .int .i64 0, .int .i64 0] #[Value.int .i64 502, .int .i64 0, .int .i64 0, .int .i64 0, .string ⟨#[]⟩, .string ⟨#[]⟩, .int .i64 0, .int .i64 0, .int .i64 0] (n := 9) rfl rfl rfl rfl Tryd.underlying47 (by kernel_rfl) (by kernel_rfl) (by decide) (by decide) ?_
  simp only [Act.put, List.setIfInBounds_toArray, List.set_cons_zero, List.set_cons_succ]
  have ga : w3.grownBy (w3.alloc (.cells (#[Value.int .i64 501, .int .i64 0, .int .i64 0, .int .i64 0, .string ⟨#[]⟩, .string ⟨#[]⟩, .int .i64 0, .int .i64 0, .int .i64 0] ++ #[Value.int .i64 502, .int .i64 0, .int .i64 0, .int .i64 0, .string ⟨#[]⟩, .string ⟨#[]⟩, .int .i64 0, .int .i64 0, .int .i64 0]) 90)) none := World.grownBy_alloc w3 _ none
  have ha := heap_alloc_new w3 (.cells (#[Value.int .i64 501, .int .i64 0, .int .i64 0, .int .i64 0, .string ⟨#[]⟩, .string ⟨#[]⟩, .int .i64 0, .int .i64 0, .int .i64 0] ++ #[Value.int .i64 502, .int .i64 0, .int .i64 0, .int .i64 0, .string ⟨#[]⟩, .string ⟨#[]⟩, .int .i64 0, .int .i64 0, .int .i64 0]) 90)
  have rba := rb.step ga .none
  have sza := Nat.le_trans hsz ga.size
  have gra := Tree.grown_trans gr ga (by simp)
  replace M_slots := own_off M_slots ga .none
  replace M_epochs := own_off M_epochs ga .none
  replace M_segs := own_off M_segs ga .none
  replace M_toks := own_off M_toks ga .none
  have TCa := Lib.hid (fun i h1 h2 => (TC.out i h1 h2).off ga .none)
  clear ga rb hsz gr TC yc
  generalize w3.alloc (.cells (#[Value.int .i64 501, .int .i64 0, .int .i64 0, .int .i64 0, .string ⟨#[]⟩, .string ⟨#[]⟩, .int .i64 0, .int .i64 0, .int .i64 0] ++ #[Value.int .i64 502, .int .i64 0, .int .i64 0, .int .i64 0, .string ⟨#[]⟩, .string ⟨#[]⟩, .int .i64 0, .int .i64 0, .int .i64 0]) 90) = wa at *
  have OM := M_slots
  refine App.wpList_append_src wa rfl _ _ 47 rfl w1.heap.size 90 i_slots (.agg #[.int .i64 0, .int .i64 0, .int .i64 0, .int .i64 0, .string ⟨#[]⟩, .string ⟨#[]⟩, .int .i64 0, .int .i64 0, .int .i64 0]) 9 88 Tryd.underlying47 a1_slots a2_slots a3_slots a4_slots rfl (by decide) _ m.slots.length (m.slots.flatMap slotC) rfl OM (some ⟨w3.heap.size, 0, none⟩) 2 2 mS13 rfl rfl (fun h => by cases h)
    (fun j u hj => ⟨w3.heap.size, 0, rfl, by rw [Nat.zero_add, cell_of_row _ _ j _ _ _ ha, ← Array.getElem?_toList]; exact hj⟩) (fun u hu => List.all_eq_true.1 (show (mS13.all fun u => u.oneCell') = true from rfl) u hu) (by have := (reach_le HM.out.s.reach (by decide) (by decide)).1; omega) (by have := (reach_le HM.out.s.reach (by decide) (by decide)).2.2; omega) sza ?_
  intro v2 wb hown gb _
  have om := own_offM OM (by decide)
  have rbb := rba.step gb om
  have szb := Nat.le_trans sza gb.size
  have grb := Tree.grown_trans gra gb (fun b hb => (Step.own_lt OM hb).1)
  replace M_epochs := own_off M_epochs gb (own_typed OM (by decide) _)
  replace M_segs := own_off M_segs gb (own_typed OM (by decide) _)
  replace M_toks := own_off M_toks gb (own_typed OM (by decide) _)
  have TCb := Lib.hid (fun i h1 h2 => (TCa.out i h1 h2).off gb (own_typed OM (by decide) _))
  obtain ⟨g_slots, c_slots, rfl, hc_slots, hm_slots⟩ : ∃ g c, v2 = .slice (some ⟨g, 0, none⟩) (m.slots.length + 2) c ∧ m.slots.length + 2 ≤ c ∧ c ≤ maxLen := by
    rcases hown.2 with ⟨_, h⟩ | ⟨g, cap, cur, hv, _, _, hn, hm, _⟩
    · omega
    · exact ⟨g, cap, hv, hn, hm⟩
  clear M_slots OM om rba sza gra TCa gb ha
  simp only [Act.put, List.setIfInBounds_toArray, List.set_cons_zero, List.set_cons_succ]
  refine Step.p_move rfl _ rfl (.int .i64 m.slots.length) rfl ?_
  simp only [Act.put, List.setIfInBounds_toArray, List.set_cons_zero, List.set_cons_succ]
  refine Tree.p_cut rfl _ 90 _ _ rfl Tryd.underlying47 a1_slots g_slots (m.slots.length + 2) c_slots m.slots.length (by omega) rfl rfl ?_
  simp only [Act.put, List.setIfInBounds_toArray, List.set_cons_zero, List.set_cons_succ]
  refine Tree.p_field rfl _ _ _ rfl n0 0 rfl Tryd.underlying56 rfl (sz := 1) (by kernel_rfl) (by decide) 11 rfl ?_
  simp only [Act.put, List.setIfInBounds_toArray, List.set_cons_zero, List.set_cons_succ]
  refine Tree.p_store1 rfl _ _ _ rfl n0 11 rfl (some ⟨g_slots, 0, none⟩) m.slots.length c_slots rfl (by kernel_rfl) rbb.n (by simp [hn27]) ?_
  refine wpList_nil ?_
  simp only [Act.put]
  have gc : wb.grownBy (wb.setCell ⟨n0, 11, none⟩ (.slice (some ⟨g_slots, 0, none⟩) m.slots.length c_slots)) (some n0) := Tree.grown_setCell (Tree.grown_refl wb) _ _
  have rb := rbb.set 11 (.slice (some ⟨g_slots, 0, none⟩) m.slots.length c_slots)
  have hsz := Nat.le_trans szb gc.size
  have gr := Tree.grown_trans grb gc (fun b hb => by cases hb; exact hn0)
  have M_slots := own_off hown gc (rbb.off (by decide) _)
  replace M_epochs := own_off M_epochs gc (rbb.off (by decide) _)
  replace M_segs := own_off M_segs gc (rbb.off (by decide) _)
  replace M_toks := own_off M_toks gc (rbb.off (by decide) _)
  have TC := Lib.hid (fun i h1 h2 => (TCb.out i h1 h2).off gc (rbb.off (by decide) _))
  clear gc rbb szb grb hown TCb
  generalize wb.setCell ⟨n0, 11, none⟩ (.slice (some ⟨g_slots, 0, none⟩) m.slots.length c_slots) = w4 at *
  have yc : w4.cell? ⟨n0, 12, none⟩ = some (.slice qe m.epochs.length ke) := (cell_of_row _ _ 12 _ _ _ rb.n).trans (by simp [y12])
  go_upto_region 5 with fail
  refine wp_region_lit ?_
  refine Tree.p_field rfl _ _ _ rfl n0 0 rfl Tryd.underlying56 rfl (sz := 1) (by kernel_rfl) (by decide) 12 rfl ?_
  simp only [Act.put, List.setIfInBounds_toArray, List.set_cons_zero, List.set_cons_succ]
  refine Tree.p_load1 rfl _ _ rfl n0 12 rfl (.slice qe m.epochs.length ke) yc Tryd.underlying48 rfl ?_
  simp only [Act.put, List.setIfInBounds_toArray, List.set_cons_zero, List.set_cons_succ]
  refine Step.p_val rfl (.agg #[Value.int .u64 501, .string ⟨#[]⟩, .string ⟨#[]⟩, .string ⟨#[]⟩, .string ⟨#[]⟩]) (by unfold execOp; go_simp) ?_
  simp only [Act.put, List.setIfInBounds_toArray, List.set_cons_zero, List.set_cons_succ]
  refine Step.p_val rfl (.agg #[Value.int .u64 502, .string ⟨#[]⟩, .string ⟨#[]⟩, .string ⟨#[]⟩, .string ⟨#[]⟩]) (by unfold execOp; go_simp) ?_
  simp only [Act.put, List.setIfInBounds_toArray, List.set_cons_zero, List.set_cons_succ]
  refine p_two rfl 48 64 (.tmp 25) (.tmp 26) rfl #[Value.int .u64 501, .string ⟨#[]⟩, .string ⟨#[]⟩, .string ⟨#[]⟩, .string ⟨#[]⟩] #[Value.int .u64 502, .string ⟨#[]⟩, .string ⟨#[]⟩, .string ⟨#[]⟩, .string ⟨#[]⟩] (n := 5) rfl rfl rfl rfl Tryd.underlying48 (by kernel_rfl) (by kernel_rfl) (by decide) (by decide) ?_
  simp only [Act.put, List.setIfInBounds_toArray, List.set_cons_zero, List.set_cons_succ]
  have ga : w4.grownBy (w4.alloc (.cells (#[Value.int .u64 501, .string ⟨#[]⟩, .string ⟨#[]⟩, .string ⟨#[]⟩, .string ⟨#[]⟩] ++ #[Value.int .u64 502, .string ⟨#[]⟩, .string ⟨#[]⟩, .string ⟨#[]⟩, .string ⟨#[]⟩]) 64)) none := World.grownBy_alloc w4 _ none
  have ha := heap_alloc_new w4 (.cells (#[Value.int .u64 501, .string ⟨#[]⟩, .string ⟨#[]⟩, .string ⟨#[]⟩, .string ⟨#[]⟩] ++ #[Value.int .u64 502, .string ⟨#[]⟩, .string ⟨#[]⟩, .string ⟨#[]⟩, .string ⟨#[]⟩]) 64)
  have rba := rb.step ga .none
  have sza := Nat.le_trans hsz ga.size
  have gra := Tree.grown_trans gr ga (by simp)
  replace M_slots := own_off M_slots ga .none
  replace M_epochs := own_off M_epochs ga .none
  replace M_segs := own_off M_segs ga .none
  replace M_toks := own_off M_toks ga .none
  have TCa := Lib.hid (fun i h1 h2 => (TC.out i h1 h2).off ga .none)
  clear ga rb hsz gr TC yc
  generalize w4.alloc (.cells (#[Value.int .u64 501, .string ⟨#[]⟩, .string ⟨#[]⟩, .string ⟨#[]⟩, .string ⟨#[]⟩] ++ #[Value.int .u64 502, .string ⟨#[]⟩, .string ⟨#[]⟩, .string ⟨#[]⟩, .string ⟨#[]⟩]) 64) = wa at *
  have OM := M_epochs
  refine App.wpList_append_src wa rfl _ _ 48 rfl w1.heap.size 64 i_epochs (.agg #[.int .u64 0, .string ⟨#[]⟩, .string ⟨#[]⟩, .string ⟨#[]⟩, .string ⟨#[]⟩]) 5 72 Tryd.underlying48 a1_epochs a2_epochs a3_epochs a4_epochs rfl (by decide) _ m.epochs.length (m.epochs.flatMap epochC) rfl OM (some ⟨w4.heap.size, 0, none⟩) 2 2 mE13 rfl rfl (fun h => by cases h)
    (fun j u hj => ⟨w4.heap.size, 0, rfl, by rw [Nat.zero_add, cell_of_row _ _ j _ _ _ ha, ← Array.getElem?_toList]; exact hj⟩) (fun u hu => List.all_eq_true.1 (show (mE13.all fun u => u.oneCell') = true from rfl) u hu) (by have := (reach_le HM.out.e.reach (by decide) (by decide)).1; omega) (by have := (reach_le HM.out.e.reach (by decide) (by decide)).2.2; omega) sza ?_
  intro v2 wb hown gb _
  have om := own_offM OM (by decide)
  have rbb := rba.step gb om
  have szb := Nat.le_trans sza gb.size
  have grb := Tree.grown_trans gra gb (fun b hb => (Step.own_lt OM hb).1)
  replace M_slots := own_off M_slots gb (own_typed OM (by decide) _)
  replace M_segs := own_off M_segs gb (own_typed OM (by decide) _)
  replace M_toks := own_off M_toks gb (own_typed OM (by decide) _)
  have TCb := Lib.hid (fun i h1 h2 => (TCa.out i h1 h2).off gb (own_typed OM (by decide) _))
  obtain ⟨g_epochs, c_epochs, rfl, hc_epochs, hm_epochs⟩ : ∃ g c, v2 = .slice (some ⟨g, 0, none⟩) (m.epochs.length + 2) c ∧ m.epochs.length + 2 ≤ c ∧ c ≤ maxLen := by
    rcases hown.2 with ⟨_, h⟩ | ⟨g, cap, cur, hv, _, _, hn, hm, _⟩
    · omega
    · exact ⟨g, cap, hv, hn, hm⟩
  clear M_epochs OM om rba sza gra TCa gb ha
  simp only [Act.put, List.setIfInBounds_toArray, List.set_cons_zero, List.set_cons_succ]
  refine Step.p_move rfl _ rfl (.int .i64 m.epochs.length) rfl ?_
  simp only [Act.put, List.setIfInBounds_toArray, List.set_cons_zero, List.set_cons_succ]
  refine Tree.p_cut rfl _ 64 _ _ rfl Tryd.underlying48 a1_epochs g_epochs (m.epochs.length + 2) c_epochs m.epochs.length (by omega) rfl rfl ?_
  simp only [Act.put, List.setIfInBounds_toArray, List.set_cons_zero, List.set_cons_succ]
  refine Tree.p_field rfl _ _ _ rfl n0 0 rfl Tryd.underlying56 rfl (sz := 1) (by kernel_rfl) (by decide) 12 rfl ?_
  simp only [Act.put, List.setIfInBounds_toArray, List.set_cons_zero, List.set_cons_succ]
  refine Tree.p_store1 rfl _ _ _ rfl n0 12 rfl (some ⟨g_epochs, 0, none⟩) m.epochs.length c_epochs rfl (by kernel_rfl) rbb.n (by simp [hn27]) ?_
  refine wpList_nil ?_
  simp only [Act.put]
  have gc : wb.grownBy (wb.setCell ⟨n0, 12, none⟩ (.slice (some ⟨g_epochs, 0, none⟩) m.epochs.length c_epochs)) (some n0) := Tree.grown_setCell (Tree.grown_refl wb) _ _
  have rb := rbb.set 12 (.slice (some ⟨g_epochs, 0, none⟩) m.epochs.length c_epochs)
  have hsz := Nat.le_trans szb gc.size
  have gr := Tree.grown_trans grb gc (fun b hb => by cases hb; exact hn0)
  have M_epochs := own_off hown gc (rbb.off (by decide) _)
  replace M_slots := own_off M_slots gc (rbb.off (by decide) _)
  replace M_segs := own_off M_segs gc (rbb.off (by decide) _)
  replace M_toks := own_off M_toks gc (rbb.off (by decide) _)
  have TC := Lib.hid (fun i h1 h2 => (TCb.out i h1 h2).off gc (rbb.off (by decide) _))
  clear gc rbb szb grb hown TCb
  generalize wb.setCell ⟨n0, 12, none⟩ (.slice (some ⟨g_epochs, 0, none⟩) m.epochs.length c_epochs) = w5 at *
  have yc : w5.cell? ⟨n0, 13, none⟩ = some (.slice qg m.segs.length kg) := (cell_of_row _ _ 13 _ _ _ rb.n).trans (by simp [y13])
  go_upto_region 7 with fail
  refine wp_region_lit ?_
  refine Tree.p_field rfl _ _ _ rfl n0 0 rfl Tryd.underlying56 rfl (sz := 1) (by kernel_rfl) (by decide) 13 rfl ?_
  simp only [Act.put, List.setIfInBounds_toArray, List.set_cons_zero, List.set_cons_succ]
  refine Tree.p_load1 rfl _ _ rfl n0 13 rfl (.slice qg m.segs.length kg) yc Tryd.underlying49 rfl ?_
  simp only [Act.put, List.setIfInBounds_toArray, List.set_cons_zero, List.set_cons_succ]
  refine Step.p_val rfl (.agg #[Value.int .u64 0, .int .u64 0, .int .u64 501]) (by unfold execOp; go_simp) ?_
  simp only [Act.put, List.setIfInBounds_toArray, List.set_cons_zero, List.set_cons_succ]
  refine Step.p_val rfl (.agg #[Value.int .u64 0, .int .u64 0, .int .u64 502]) (by unfold execOp; go_simp) ?_
  simp only [Act.put, List.setIfInBounds_toArray, List.set_cons_zero, List.set_cons_succ]
  refine p_two rfl 49 92 (.tmp 37) (.tmp 38) rfl #[Value.int .u64 0, .int .u64 0, .int .u64 501] #[Value.int .u64 0, .int .u64 0, .int .u64 502] (n := 3) rfl rfl rfl rfl Tryd.underlying49 (by kernel_rfl) (by kernel_rfl) (by decide) (by decide) ?_
  simp only [Act.put, List.setIfInBounds_toArray, List.set_cons_zero, List.set_cons_succ]
  have ga : w5.grownBy (w5.alloc (.cells (#[Value.int .u64 0, .int .u64 0, .int .u64 501] ++ #[Value.int .u64 0, .int .u64 0, .int .u64 502]) 92)) none := World.grownBy_alloc w5 _ none
  have ha := heap_alloc_new w5 (.cells (#[Value.int .u64 0, .int .u64 0, .int .u64 501] ++ #[Value.int .u64 0, .int .u64 0, .int .u64 502]) 92)
  have rba := rb.step ga .none
  have sza := Nat.le_trans hsz ga.size
  have gra := Tree.grown_trans gr ga (by simp)
  replace M_slots := own_off M_slots ga .none
  replace M_epochs := own_off M_epochs ga .none
  replace M_segs := own_off M_segs ga .none
  replace M_toks := own_off M_toks ga .none
  have TCa := Lib.hid (fun i h1 h2 => (TC.out i h1 h2).off ga .none)
  clear ga rb hsz gr TC yc
  generalize w5.alloc (.cells (#[Value.int .u64 0, .int .u64 0, .int .u64 501] ++ #[Value.int .u64 0, .int .u64 0, .int .u64 502]) 92) = wa at *
  have OM := M_segs
  refine App.wpList_append_src wa rfl _ _ 49 rfl w1.heap.size 92 i_segs (.agg #[.int .u64 0, .int .u64 0, .int .u64 0]) 3 24 Tryd.underlying49 a1_segs a2_segs a3_segs a4_segs rfl (by decide) _ m.segs.length (m.segs.flatMap sgC) rfl OM (some ⟨w5.heap.size, 0, none⟩) 2 2 mG13 rfl rfl (fun h => by cases h)
    (fun j u hj => ⟨w5.heap.size, 0, rfl, by rw [Nat.zero_add, cell_of_row _ _ j _ _ _ ha, ← Array.getElem?_toList]; exact hj⟩) (fun u hu => List.all_eq_true.1 (show (mG13.all fun u => u.oneCell') = true from rfl) u hu) (by have := (reach_le HM.out.g.reach (by decide) (by decide)).1; omega) (by have := (reach_le HM.out.g.reach (by decide) (by decide)).2.2; omega) sza ?_
  intro v2 wb hown gb _
  have om := own_offM OM (by decide)
  have rbb := rba.step gb om
  have szb := Nat.le_trans sza gb.size
  have grb := Tree.grown_trans gra gb (fun b hb => (Step.own_lt OM hb).1)
  replace M_slots := own_off M_slots gb (own_typed OM (by decide) _)
  replace M_epochs := own_off M_epochs gb (own_typed OM (by decide) _)
  replace M_toks := own_off M_toks gb (own_typed OM (by decide) _)
  have TCb := Lib.hid (fun i h1 h2 => (TCa.out i h1 h2).off gb (own_typed OM (by decide) _))
  obtain ⟨g_segs, c_segs, rfl, hc_segs, hm_segs⟩ : ∃ g c, v2 = .slice (some ⟨g, 0, none⟩) (m.segs.length + 2) c ∧ m.segs.length + 2 ≤ c ∧ c ≤ maxLen := by
    rcases hown.2 with ⟨_, h⟩ | ⟨g, cap, cur, hv, _, _, hn, hm, _⟩
    · omega
    · exact ⟨g, cap, hv, hn, hm⟩
  clear M_segs OM om rba sza gra TCa gb ha
  simp only [Act.put, List.setIfInBounds_toArray, List.set_cons_zero, List.set_cons_succ]
  refine Step.p_move rfl _ rfl (.int .i64 m.segs.length) rfl ?_
  simp only [Act.put, List.setIfInBounds_toArray, List.set_cons_zero, List.set_cons_succ]
  refine Tree.p_cut rfl _ 92 _ _ rfl Tryd.underlying49 a1_segs g_segs (m.segs.length + 2) c_segs m.segs.length (by omega) rfl rfl ?_
  simp only [Act.put, List.setIfInBounds_toArray, List.set_cons_zero, List.set_cons_succ]
  refine Tree.p_field rfl _ _ _ rfl n0 0 rfl Tryd.underlying56 rfl (sz := 1) (by kernel_rfl) (by decide) 13 rfl ?_
  simp only [Act.put, List.setIfInBounds_toArray, List.set_cons_zero, List.set_cons_succ]
  refine Tree.p_store1 rfl _ _ _ rfl n0 13 rfl (some ⟨g_segs, 0, none⟩) m.segs.length c_segs rfl (by kernel_rfl) rbb.n (by simp [hn27]) ?_
  refine wpList_nil ?_
  simp only [Act.put]
  have gc : wb.grownBy (wb.setCell ⟨n0, 13, none⟩ (.slice (some ⟨g_segs, 0, none⟩) m.segs.length c_segs)) (some n0) := Tree.grown_setCell (Tree.grown_refl wb) _ _
  have rb := rbb.set 13 (.slice (some ⟨g_segs, 0, none⟩) m.segs.length c_segs)
  have hsz := Nat.le_trans szb gc.size
  have gr := Tree.grown_trans grb gc (fun b hb => by cases hb; exact hn0)
  have M_segs := own_off hown gc (rbb.off (by decide) _)
  replace M_slots := own_off M_slots gc (rbb.off (by decide) _)
  replace M_epochs := own_off M_epochs gc (rbb.off (by decide) _)
  replace M_toks := own_off M_toks gc (rbb.off (by decide) _)
  have TC := Lib.hid (fun i h1 h2 => (TCb.out i h1 h2).off gc (rbb.off (by decide) _))
  clear gc rbb szb grb hown TCb
  generalize wb.setCell ⟨n0, 13, none⟩ (.slice (some ⟨g_segs, 0, none⟩) m.segs.length c_segs) = w6 at *
  have yc : w6.cell? ⟨n0, 26, none⟩ = some (.slice qt m.toks.length kt) := (cell_of_row _ _ 26 _ _ _ rb.n).trans (by simp [y26])
  go_upto_region 9 with fail
  refine wp_region_lit ?_
  refine Tree.p_field rfl _ _ _ rfl n0 0 rfl Tryd.underlying56 rfl (sz := 1) (by kernel_rfl) (by decide) 26 rfl ?_
  simp only [Act.put, List.setIfInBounds_toArray, List.set_cons_zero, List.set_cons_succ]
  refine Tree.p_load1 rfl _ _ rfl n0 26 rfl (.slice qt m.toks.length kt) yc Tryd.underlying54 rfl ?_
  simp only [Act.put, List.setIfInBounds_toArray, List.set_cons_zero, List.set_cons_succ]
  refine Step.p_val rfl (.agg #[Value.int .i64 501, .string ⟨#[]⟩, .slice none 0 0, .string ⟨#[]⟩]) (by unfold execOp; go_simp) ?_
  simp only [Act.put, List.setIfInBounds_toArray, List.set_cons_zero, List.set_cons_succ]
  refine Step.p_val rfl (.agg #[Value.int .i64 502, .string ⟨#[]⟩, .slice none 0 0, .string ⟨#[]⟩]) (by unfold execOp; go_simp) ?_
  simp only [Act.put, List.setIfInBounds_toArray, List.set_cons_zero, List.set_cons_succ]
  refine p_two rfl 54 41 (.tmp 49) (.tmp 50) rfl #[Value.int .i64 501, .string ⟨#[]⟩, .slice none 0 0, .string ⟨#[]⟩] #[Value.int .i64 502, .string ⟨#[]⟩, .slice none 0 0, .string ⟨#[]⟩] (n := 4) rfl rfl rfl rfl Tryd.underlying54 (by kernel_rfl) (by kernel_rfl) (by decide) (by decide) ?_
  simp only [Act.put, List.setIfInBounds_toArray, List.set_cons_zero, List.set_cons_succ]
  have ga : w6.grownBy (w6.alloc (.cells (#[Value.int .i64 501, .string ⟨#[]⟩, .slice none 0 0, .string ⟨#[]⟩] ++ #[Value.int .i64 502, .string ⟨#[]⟩, .slice none 0 0, .string ⟨#[]⟩]) 41)) none := World.grownBy_alloc w6 _ none
  have ha := heap_alloc_new w6 (.cells (#[Value.int .i64 501, .string ⟨#[]⟩, .slice none 0 0, .string ⟨#[]⟩] ++ #[Value.int .i64 502, .string ⟨#[]⟩, .slice none 0 0, .string ⟨#[]⟩]) 41)
  have rba := rb.step ga .none
  have sza := Nat.le_trans hsz ga.size
  have gra := Tree.grown_trans gr ga (by simp)
  replace M_slots := own_off M_slots ga .none
  replace M_epochs := own_off M_epochs ga .none
  replace M_segs := own_off M_segs ga .none
  replace M_toks := own_off M_toks ga .none
  have TCa := Lib.hid (fun i h1 h2 => (TC.out i h1 h2).off ga .none)
  clear ga rb hsz gr TC yc
  generalize w6.alloc (.cells (#[Value.int .i64 501, .string ⟨#[]⟩, .slice none 0 0, .string ⟨#[]⟩] ++ #[Value.int .i64 502, .string ⟨#[]⟩, .slice none 0 0, .string ⟨#[]⟩]) 41) = wa at *
  have OM := M_toks
  refine App.wpList_append_src wa rfl _ _ 54 rfl w1.heap.size 41 i_toks (.agg #[.int .i64 0, .string ⟨#[]⟩, .slice none 0 0, .string ⟨#[]⟩]) 4 64 Tryd.underlying54 a1_toks a2_toks a3_toks a4_toks rfl (by decide) _ m.toks.length (T.flatMap tokC) rfl OM (some ⟨w6.heap.size, 0, none⟩) 2 2 mT13 rfl rfl (fun h => by cases h)
    (fun j u hj => ⟨w6.heap.size, 0, rfl, by rw [Nat.zero_add, cell_of_row _ _ j _ _ _ ha, ← Array.getElem?_toList]; exact hj⟩) (fun u hu => List.all_eq_true.1 (show (mT13.all fun u => u.oneCell') = true from rfl) u hu) (by have := (reach_le HM.out.t.reach (by decide) (by decide)).1; omega) (by have := (reach_le HM.out.t.reach (by decide) (by decide)).2.2; omega) sza ?_
  intro v2 wb hown gb _
  have om := own_offM OM (by decide)
  have rbb := rba.step gb om
  have szb := Nat.le_trans sza gb.size
  have grb := Tree.grown_trans gra gb (fun b hb => (Step.own_lt OM hb).1)
  replace M_slots := own_off M_slots gb (own_typed OM (by decide) _)
  replace M_epochs := own_off M_epochs gb (own_typed OM (by decide) _)
  replace M_segs := own_off M_segs gb (own_typed OM (by decide) _)
  have TCb := Lib.hid (fun i h1 h2 => (TCa.out i h1 h2).off gb (own_typed OM (by decide) _))
  obtain ⟨g_toks, c_toks, rfl, hc_toks, hm_toks⟩ : ∃ g c, v2 = .slice (some ⟨g, 0, none⟩) (m.toks.length + 2) c ∧ m.toks.length + 2 ≤ c ∧ c ≤ maxLen := by
    rcases hown.2 with ⟨_, h⟩ | ⟨g, cap, cur, hv, _, _, hn, hm, _⟩
    · omega
    · exact ⟨g, cap, hv, hn, hm⟩
  clear M_toks OM om rba sza gra TCa gb ha
  simp only [Act.put, List.setIfInBounds_toArray, List.set_cons_zero, List.set_cons_succ]
  refine Step.p_move rfl _ rfl (.int .i64 m.toks.length) rfl ?_
  simp only [Act.put, List.setIfInBounds_toArray, List.set_cons_zero, List.set_cons_succ]
  refine Tree.p_cut rfl _ 41 _ _ rfl Tryd.underlying54 a1_toks g_toks (m.toks.length + 2) c_toks m.toks.length (by omega) rfl rfl ?_
  simp only [Act.put, List.setIfInBounds_toArray, List.set_cons_zero, List.set_cons_succ]
  refine Tree.p_field rfl _ _ _ rfl n0 0 rfl Tryd.underlying56 rfl (sz := 1) (by kernel_rfl) (by decide) 26 rfl ?_
  simp only [Act.put, List.setIfInBounds_toArray, List.set_cons_zero, List.set_cons_succ]
  refine Tree.p_store1 rfl _ _ _ rfl n0 26 rfl (some ⟨g_toks, 0, none⟩) m.toks.length c_toks rfl (by kernel_rfl) rbb.n (by simp [hn27]) ?_
  refine wpList_nil ?_
  simp only [Act.put]
  have gc : wb.grownBy (wb.setCell ⟨n0, 26, none⟩ (.slice (some ⟨g_toks, 0, none⟩) m.toks.length c_toks)) (some n0) := Tree.grown_setCell (Tree.grown_refl wb) _ _
  have rb := rbb.set 26 (.slice (some ⟨g_toks, 0, none⟩) m.toks.length c_toks)
  have hsz := Nat.le_trans szb gc.size
  have gr := Tree.grown_trans grb gc (fun b hb => by cases hb; exact hn0)
  have M_toks := own_off hown gc (rbb.off (by decide) _)
  replace M_slots := own_off M_slots gc (rbb.off (by decide) _)
  replace M_epochs := own_off M_epochs gc (rbb.off (by decide) _)
  replace M_segs := own_off M_segs gc (rbb.off (by decide) _)
  have TC := Lib.hid (fun i h1 h2 => (TCb.out i h1 h2).off gc (rbb.off (by decide) _))
  clear gc rbb szb grb hown TCb
  generalize wb.setCell ⟨n0, 26, none⟩ (.slice (some ⟨g_toks, 0, none⟩) m.toks.length c_toks) = w7 at *
  obtain ⟨cf, hcf⟩ : ∃ cf : Array Value, (((cn.setIfInBounds 11 (.slice (some ⟨g_slots, 0, none⟩) m.slots.length c_slots)).setIfInBounds 12 (.slice (some ⟨g_epochs, 0, none⟩) m.epochs.length c_epochs)).setIfInBounds 13 (.slice (some ⟨g_segs, 0, none⟩) m.segs.length c_segs)).setIfInBounds 26 (.slice (some ⟨g_toks, 0, none⟩) m.toks.length c_toks) = cf := ⟨_, rfl⟩
  have f26 : cf[26]? = some (.slice (some ⟨g_toks, 0, none⟩) m.toks.length c_toks) := by rw [← hcf]; simp [hn27]
  rw [hcf] at rb
  have HCF := Lib.hid hcf
  have R0 : Hid (RW w1.heap.size w1 m T (some ⟨g_slots, 0, none⟩) (some ⟨g_epochs, 0, none⟩) (some ⟨g_segs, 0, none⟩) c_slots c_epochs c_segs g_toks c_toks 0 T w7) := Lib.hid ⟨gr, ⟨⟨_, rfl⟩, M_slots, hc_slots, hm_slots⟩, ⟨⟨_, rfl⟩, M_epochs, hc_epochs, hm_epochs⟩, ⟨⟨_, rfl⟩, M_segs, hc_segs, hm_segs⟩, ⟨⟨_, rfl⟩, M_toks, hc_toks, hm_toks⟩, HTl.out, fun i _ _ h => by omega, TC.out, fun i _ => rfl⟩
  have RB0 := Lib.hid rb
  clear hcf gr M_slots M_epochs M_segs M_toks TC rb hc_slots hm_slots hc_epochs hm_epochs hc_segs hm_segs hc_toks hm_toks hsz y11 y12 y13 y26
  have hlen : m.toks.length ≤ 9223372036854775807 := Nat.le_trans HM.out.t.le (by have := HM.out.t.max; unfold maxLen at this; omega)
  go_wp2
  go_loopw [5] (fun i wr => ∃ (k : Nat) (R : List TokD), k ≤ m.toks.length ∧ i = .int .i64 k ∧ RW w1.heap.size w1 m T (some ⟨g_slots, 0, none⟩) (some ⟨g_epochs, 0, none⟩) (some ⟨g_segs, 0, none⟩) c_slots c_epochs c_segs g_toks c_toks k R wr ∧ RB (w.heap.size + 1) n0 cf wr) (fun i _ => m.toks.length - (intOf i).toNat)
  case atStart => exact ⟨0, T, by omega, rfl, R0.out, RB0.out⟩
  case round =>
    obtain ⟨k, R, hk, rfl, hrw, hrb⟩ := hrel
    have HR := Lib.hid hrw
    have HB := Lib.hid hrb
    clear hrw hrb
    by_cases hlt : k < m.toks.length
    · have hkT : k < T.length := by rw [HTl.out]; exact hlt
      have hkR : k < R.length := by rw [HR.out.len]; exact hlt
      have hRk : R[k]'hkR = T[k]'hkT := by
        have := HR.out.old k (Nat.le_refl _)
        rw [List.getElem?_eq_getElem hkR, List.getElem?_eq_getElem hkT] at this
        exact Option.some.inj this
      have hcp := HR.out.cp k hlt hkT
      obtain ⟨k1, k2, k3, k4, k5⟩ := HM.out.tok _ (List.getElem_mem hlt)
      have hcell : wr.cell? ⟨g_toks, k * 4 + 2, none⟩ = some (.slice (T[k]'hkT).q (m.toks[k]'hlt).n (T[k]'hkT).cap) := by
        have hfl : (R.flatMap tokC).length = R.length * 4 := flat_len (sz := 4) (fun _ => rfl) R
        rw [HR.out.t.own.cellAt (k * 4 + 2) (by omega), List.getElem?_append_left (by omega), flat_get (sz := 4) (fun _ => rfl) R k 2 hkR (by decide), hRk, ← hcp.n]
        rfl
      obtain ⟨hle, hq, hil⟩ := own_il hcp.own
      have gtB := Step.own_lt HR.out.t.own (g := g_toks) rfl
      have HCELL := Lib.hid hcell
      clear hcp hcell hRk
      go_upto_region 13 with fail
      refine Step.begin_ (S := fun w' => w'.heap[n0]? = some (.cells cf 56 (0, 0))) 13 rfl (by kernel_rfl) HB.out.n ?_
      intro hS
      have SX := Lib.hid hS
      clear hS
      refine Tree.t_field (i := 0) rfl rfl (by kernel_rfl) (by kernel_rfl) (by kernel_rfl) SX.out _ _ _ rfl n0 0 rfl Tryd.underlying56 rfl (sz := 1) (by kernel_rfl) (by decide) 26 rfl ?_
      simp only [Act.put, List.setIfInBounds_toArray, List.set_cons_zero, List.set_cons_succ]
      refine Tree.t_load1 (i := 1) rfl rfl (by kernel_rfl) (by kernel_rfl) (by kernel_rfl) SX.out _ _ rfl n0 26 rfl (.slice (some ⟨g_toks, 0, none⟩) m.toks.length c_toks) (fun w' hw' => (cell_of_row _ _ 26 _ _ _ hw').trans f26) Tryd.underlying54 rfl ?_
      simp only [Act.put, List.setIfInBounds_toArray, List.set_cons_zero, List.set_cons_succ]
      refine Step.t_move (i := 2) rfl rfl (by kernel_rfl) (by kernel_rfl) (by kernel_rfl) SX.out _ rfl (.int .i64 k) rfl ?_
      simp only [Act.put, List.setIfInBounds_toArray, List.set_cons_zero, List.set_cons_succ]
      refine Tree.t_field (i := 3) rfl rfl (by kernel_rfl) (by kernel_rfl) (by kernel_rfl) SX.out _ _ _ rfl n0 0 rfl Tryd.underlying56 rfl (sz := 1) (by kernel_rfl) (by decide) 26 rfl ?_
      simp only [Act.put, List.setIfInBounds_toArray, List.set_cons_zero, List.set_cons_succ]
      refine Tree.t_load1 (i := 4) rfl rfl (by kernel_rfl) (by kernel_rfl) (by kernel_rfl) SX.out _ _ rfl n0 26 rfl (.slice (some ⟨g_toks, 0, none⟩) m.toks.length c_toks) (fun w' hw' => (cell_of_row _ _ 26 _ _ _ hw').trans f26) Tryd.underlying54 rfl ?_
      simp only [Act.put, List.setIfInBounds_toArray, List.set_cons_zero, List.set_cons_succ]
      refine Step.t_move (i := 5) rfl rfl (by kernel_rfl) (by kernel_rfl) (by kernel_rfl) SX.out _ rfl (.int .i64 k) rfl ?_
      simp only [Act.put, List.setIfInBounds_toArray, List.set_cons_zero, List.set_cons_succ]
      refine Step.t_index (i := 6) rfl rfl (by kernel_rfl) (by kernel_rfl) (by kernel_rfl) SX.out _ 41 _ _ rfl g_toks 0 m.toks.length c_toks rfl k rfl hlt 4 Tryd.underlying54 (by kernel_rfl) ?_
      simp only [Act.put, List.setIfInBounds_toArray, List.set_cons_zero, List.set_cons_succ]
      refine Tree.t_field (i := 7) rfl rfl (by kernel_rfl) (by kernel_rfl) (by kernel_rfl) SX.out _ _ _ rfl g_toks (0 + k * 4) rfl Tryd.underlying41 rfl (sz := 1) (by kernel_rfl) (by decide) (k * 4 + 2) (by show 0 + k * 4 + 2 = _; omega) ?_
      simp only [Act.put, List.setIfInBounds_toArray, List.set_cons_zero, List.set_cons_succ]
      refine Step.t_one (i := 8) rfl rfl (by kernel_rfl) (w_load1 _ _ rfl g_toks (k * 4 + 2) rfl (.slice (T[k]'hkT).q (m.toks[k]'hlt).n (T[k]'hkT).cap) HCELL.out Tryd.underlying39 rfl ?_)
      refine ⟨SX.out, ?_⟩
      simp only [Act.put, List.setIfInBounds_toArray, List.set_cons_zero, List.set_cons_succ]
      refine Step.t_one (i := 9) rfl rfl (by kernel_rfl) ?_
      refine Step.w_callx 19 [.tmp 69] _ rfl Tryd.func19 (by kernel_rfl) rfl [.slice (T[k]'hkT).q (m.toks[k]'hlt).n (T[k]'hkT).cap] rfl (Tok.ints_any _ _ _ _ _ k5 hle hq (hil.below (Below.refl _ _).drew)) ?_
      rintro e w9 ⟨gi, ci, rfl, hgi, hci, hcm, hrow, hb9⟩
      refine ⟨_, rfl, ?_⟩
      simp only [Act.put, List.setIfInBounds_toArray, List.set_cons_zero, List.set_cons_succ]
      have gw9 := gb_of_below hb9
      have HR9 := Lib.hid (HR.out.step (w' := w9) ⟨gw9.os, gw9.tape, gw9.output, gw9.size, gw9.block⟩)
      have HB9 : Hid (RB (w.heap.size + 1) n0 cf w9) := Lib.hid (RB.step (w := wr.drew) ⟨HB.out.res, HB.out.n, HB.out.ne⟩ gw9 .none)
      refine ⟨HB9.out.n, ?_⟩
      clear gw9 k1 k2 k3 k4 k5 hb9 hil hq hle HR HB HCELL
      refine Step.t_index (i := 10) rfl rfl (by kernel_rfl) (by kernel_rfl) (by kernel_rfl) HB9.out.n _ 41 _ _ rfl g_toks 0 m.toks.length c_toks rfl k rfl hlt 4 Tryd.underlying54 (by kernel_rfl) ?_
      simp only [Act.put, List.setIfInBounds_toArray, List.set_cons_zero, List.set_cons_succ]
      refine Tree.t_field (i := 11) rfl rfl (by kernel_rfl) (by kernel_rfl) (by kernel_rfl) HB9.out.n _ _ _ rfl g_toks (0 + k * 4) rfl Tryd.underlying41 rfl (sz := 1) (by kernel_rfl) (by decide) (k * 4 + 2) (by show 0 + k * 4 + 2 = _; omega) ?_
      simp only [Act.put, List.setIfInBounds_toArray, List.set_cons_zero, List.set_cons_succ]
      obtain ⟨cur, hcur, hcl⟩ : ∃ cur, w9.heap[g_toks]? = some (.cells cur 41 (0, 0)) ∧ k * 4 + 2 < cur.size := by
        rcases HR9.out.t.own.2 with ⟨h, h0⟩ | ⟨g, cap, cur, hv, _, hg, hnc, _, hcs, _⟩
        · simp at h
        · simp only [Value.slice.injEq, Option.some.injEq, Addr.mk.injEq, and_true] at hv
          obtain ⟨rfl, _⟩ := hv
          refine ⟨cur, hg, ?_⟩
          rw [hcs]
          omega
      have gwr : wr.heap.size ≤ gi := hgi
      refine Step.t_one (i := 12) rfl rfl (by kernel_rfl) (Tree.w_store1 39 _ _ rfl g_toks (k * 4 + 2) rfl (some ⟨gi, 0, none⟩) (m.toks[k]'hlt).n ci rfl (by kernel_rfl) hcur hcl ?_)
      have rws := HR9.out.store (Nat.le_refl _) hlt HTl.out (gi := gi) (c := ci) (by omega) (by
        have h := hrow 0 (by omega)
        have h2 : 0 < (Tok.row (m.toks[k]'hlt).n (m.toks[k]'hlt).f 70).length := by simp [Tok.row]
        rw [List.getElem?_eq_getElem h2] at h
        exact Frame.block_lt h) hci hcm hrow
      have gst : w9.grownBy (w9.setCell ⟨g_toks, k * 4 + 2, none⟩ (.slice (some ⟨gi, 0, none⟩) (m.toks[k]'hlt).n ci)) (some g_toks) := Tree.grown_setCell (Tree.grown_refl w9) _ _
      have rbs := HB9.out.step gst (own_offM HR9.out.t.own (by decide))
      refine ⟨rbs.n, ?_⟩
      refine Step.t_end (by kernel_rfl) ?_
      simp only [Act.put]
      have RWS := Lib.hid rws
      have RBS := Lib.hid rbs
      clear rws rbs gst hcur hcl
      go_wp2
      go_roundw
      case rel => exact ⟨k + 1, _, by omega, rfl, RWS.out, RBS.out⟩
      case measure => simp [intOf]; omega
    · obtain rfl : k = m.toks.length := by omega
      have hl : R.length = m.toks.length := HR.out.len
      obtain ⟨p2, hp2⟩ : ∃ p2 : Places, p2 = ⟨some ⟨g_slots, 0, none⟩, c_slots, some ⟨g_epochs, 0, none⟩, c_epochs, some ⟨g_segs, 0, none⟩, c_segs, some ⟨g_toks, 0, none⟩, c_toks⟩ := ⟨_, rfl⟩
      have hcfe : cf = metaA { m with toks := R } p2 := by
        rw [← HCF.out, ← HCN.out, hp2]
        simp only [metaA, hl]
        rfl
      have hf1 : cf.all (·.oneCell') = true := by rw [hcfe, ← Array.all_toList]; rfl
      have hf27 : cf.size = 27 := by rw [hcfe]; rfl
      have HMV := Lib.hid (show metaV { m with toks := R } p2 = .agg cf by rw [metaV_eq, hcfe])
      clear hcfe
      have tw : Twin w1.heap.size 2 mS13 mE13 mG13 mT13 wr m { m with toks := R } p2 := by
        rw [hp2]
        exact ⟨rfl, hl, HR.out.s, HR.out.e, HR.out.g, HR.out.t, fun i h1 h2 => (HR.out.tok i h1 h2 h1).mono (by have := (Step.own_lt HR.out.t.own (g := g_toks) rfl).1; omega)⟩
      have hgr := Tree.grown_trans B1.out HR.out.gr (by simp)
      have hn := HB.out.n
      have hr := HB.out.res
      have hw1 : w.heap.size + 2 ≤ w1.heap.size := by omega
      clear hp2 f26
      go_upto_region 14 with fail
      refine wp_region_lit ?_
      refine Tree.p_loadrow rfl _ _ rfl n0 rfl hn Tryd.underlying56 rfl (by rw [hf27]; exact hi27) ?_
      simp only [Act.put, List.setIfInBounds_toArray, List.set_cons_zero, List.set_cons_succ]
      refine wpList_store_row rfl _ _ _ rfl (w.heap.size + 1) cf rfl rfl 56 metaZ hr (by rw [hf27]; exact hi27) (by rw [hf27]; rfl) hf1 ?_
      refine wpList_nil ?_
      simp only [Act.put]
      have hr4 := setRow_heap wr (w.heap.size + 1) metaZ cf _ _ hr
      have g4 : wr.grownBy (wr.setRow (w.heap.size + 1) cf) (some (w.heap.size + 1)) := ⟨rfl, rfl, rfl, by simp, fun k hk hne => setRow_other _ _ _ _ (fun e => hne (by rw [e]))⟩
      have T4 := Lib.hid ((tw.grown g4 (fun b hb => by cases hb; omega)).mono (lo' := w.heap.size) (by omega))
      have B4 := Lib.hid (below_of_gb (Tree.grown_trans hgr g4 (fun b hb => by cases hb; omega)))
      clear hn hr g4 tw hgr
      generalize wr.setRow (w.heap.size + 1) cf = w4' at *
      go_wp2
      refine bodyPost_ret (v := .agg cf) (results_cell_row rfl _ _ (w.heap.size + 1) _ cf _ _ rfl hr4 Tryd.underlying56 rfl (by rw [hf27]; exact hi27)) rfl ?_
      exact ⟨_, p2, by rw [HMV.out], T4.out, B4.out⟩
end Go.Proofs.YtfchbodbkdkcfaaDoor.Meta
