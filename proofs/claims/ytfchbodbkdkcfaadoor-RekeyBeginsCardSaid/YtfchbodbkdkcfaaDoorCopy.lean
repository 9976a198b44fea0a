/- cofferref13.Copy: metadata in new memory. -/
import Derived.Test.YtfchbodbkdkcfaaDoorTwinA
import Derived.Test.YtfchbodbkdkcfaaDoorTree2
import Derived.Test.YtfchbodbkdkcfaaDoorSame0
namespace Go.Proofs.YtfchbodbkdkcfaaDoor.Meta
open Go.RowKit Go.Lib Go.Proofs.YtfchbodbkdkcfaaDoor.Coll

def intC (f : Nat → Int) (n : Nat) : List Value := (List.range n).map fun i => Value.int .i64 (f i)
/-- a token and a copy of it, its slots in a row of the call's own -/
structure TokCp (lo : Nat) (w : World) (d d2 : TokD) : Prop where
  num : d2.num = d.num
  kind : d2.kind = d.kind
  note : d2.note = d.note
  n : d2.n = d.n
  f : d2.f = d.f
  own : w.ownsRow lo 3 1 (.slice d2.q d.n d2.cap) d.n (intC d.f d.n)
theorem TokCp.off {lo : Nat} {w w' : World} {d d2 : TokD} (h : TokCp lo w d d2) {ob : Option Nat} (hg : w.grownBy w' ob) (ho : Off w lo 3 ob) : TokCp lo w' d d2 := ⟨h.num, h.kind, h.note, h.n, h.f, own_off h.own hg ho⟩
/-- between the rounds of a copy's tokens, and at its end -/
structure CW (B : Nat) (w : World) (m : MetaD) (vs ve vg vt : Value) (k : Nat) (T : List TokD) (wr : World) : Prop where
  gr : w.grownBy wr none
  sz : B ≤ wr.heap.size
  s : wr.ownsRow B 90 9 vs m.slots.length (m.slots.flatMap slotC)
  e : wr.ownsRow B 64 5 ve m.epochs.length (m.epochs.flatMap epochC)
  g : wr.ownsRow B 92 3 vg m.segs.length (m.segs.flatMap sgC)
  len : T.length = k
  t : wr.ownsRow B 41 4 vt k (T.flatMap tokC)
  tok : ∀ i (h : i < m.toks.length) (h2 : i < T.length), TokCp B wr (m.toks[i]'h) (T[i]'h2)
theorem CW.step {B : Nat} {w wr w' : World} {m : MetaD} {vs ve vg vt : Value} {k : Nat} {T : List TokD} (h : CW B w m vs ve vg vt k T wr) {ob : Option Nat} (hg : wr.grownBy w' ob) (ho : ∀ b, ob = some b → w.heap.size ≤ b ∧ b < B) : CW B w m vs ve vg vt k T w' := by
  have off : ∀ {e : TypeId}, Off wr B e ob := fun b hb => .inl (ho b hb).2
  exact ⟨Tree.grown_trans h.gr hg (fun b hb => (ho b hb).1), Nat.le_trans h.sz hg.size, own_off h.s hg off, own_off h.e hg off, own_off h.g hg off, h.len, own_off h.t hg off, fun i h1 h2 => (h.tok i h1 h2).off hg off⟩
theorem own_typed {w : World} {B : Nat} {e : TypeId} {size n : Nat} {v : Value} {xs : List Value} (h : w.ownsRow B e size v n xs) {e2 : TypeId} (he : e ≠ e2) (lo : Nat) : Off w lo e2 v.ownBlock := fun b hb => by
  rcases h.2 with ⟨rfl, _⟩ | ⟨g, cap, cur, rfl, _, h2, _⟩
  · cases hb
  · obtain rfl : g = b := by simpa [Value.ownBlock] using hb
    exact .inr ⟨cur, _, _, h2, he⟩
/-- a token more: the append wrote into the tokens' own row, or a new one -/
theorem CW.more {B : Nat} {w wr w' : World} {m : MetaD} {vs ve vg vt vt' : Value} {k : Nat} {T : List TokD} (h : CW B w m vs ve vg vt k T wr) (hB : w.heap.size ≤ B) (hk : k < m.toks.length) {d2 : TokD} (hd : TokCp B wr (m.toks[k]'hk) d2) (hg : wr.grownBy w' vt.ownBlock) (ho : w'.ownsRow B 41 4 vt' (k + 1) (T.flatMap tokC ++ tokC d2)) : CW B w m vs ve vg vt' (k + 1) (T ++ [d2]) w' := by
  have hb : ∀ b, vt.ownBlock = some b → w.heap.size ≤ b := fun b e => Nat.le_trans hB (Step.own_lt h.t e).1
  refine ⟨Tree.grown_trans h.gr hg hb, Nat.le_trans h.sz hg.size, own_off h.s hg (own_typed h.t (by decide) _), own_off h.e hg (own_typed h.t (by decide) _), own_off h.g hg (own_typed h.t (by decide) _), by simp [h.len], by simpa using ho, fun i h1 h2 => ?_⟩
  have off := own_typed h.t (e2 := 3) (by decide) B
  by_cases e : i < T.length
  · rw [List.getElem_append_left e]
    exact (h.tok i h1 e).off hg off
  · have : i = k := by simp [h.len] at h2 e; omega
    subst this
    rw [List.getElem_append_right (by omega)]
    simpa [h.len] using hd.off hg off
theorem int_src {w : World} {q : Option Addr} {n : Nat} {f : Nat → Int} (h : Tok.IL w q n f) : ∀ j u, (intC f n)[j]? = some u → ∃ g off, q = some ⟨g, off, none⟩ ∧ w.cell? ⟨g, off + j, none⟩ = some u := fun j u hj => by
  have hl := (List.getElem?_eq_some_iff.1 hj).1
  simp only [intC, List.length_map, List.length_range] at hl
  obtain ⟨g, off, e, hc⟩ := h j hl
  refine ⟨g, off, e, ?_⟩
  rw [hc]
  simpa [intC, hl] using hj
theorem int_one (f : Nat → Int) (n : Nat) : ∀ u ∈ intC f n, u.oneCell' = true := fun u hu => by
  simp only [intC, List.mem_map] at hu
  obtain ⟨i, _, rfl⟩ := hu
  rfl
theorem own_mono {w : World} {b b' : Nat} {e : TypeId} {size : Nat} {v : Value} {n : Nat} {xs : List Value} (h : w.ownsRow b e size v n xs) (hl : b' ≤ b) : w.ownsRow b' e size v n xs := by
  refine ⟨h.1, ?_⟩
  rcases h.2 with h1 | ⟨g, c, cur, h1, h2, h3⟩
  · exact .inl h1
  · exact .inr ⟨g, c, cur, h1, by omega, h3⟩
theorem cw_mono {B B' : Nat} {w wr : World} {m : MetaD} {vs ve vg vt : Value} {k : Nat} {T : List TokD} (h : CW B w m vs ve vg vt k T wr) (hl : B' ≤ B) : CW B' w m vs ve vg vt k T wr :=
  ⟨h.gr, Nat.le_trans hl h.sz, own_mono h.s hl, own_mono h.e hl, own_mono h.g hl, h.len, own_mono h.t hl, fun i a b => ⟨(h.tok i a b).num, (h.tok i a b).kind, (h.tok i a b).note, (h.tok i a b).n, (h.tok i a b).f, own_mono (h.tok i a b).own hl⟩⟩
/-- the three blocks of the walk's own -/
structure CB (b : Nat) (cs cn : Array Value) (w : World) : Prop where
  box : w.heap[b]? = some (.cells cs 56 (0, 0))
  res : w.heap[b + 1]? = some (.cells metaZ 56 (0, 0))
  n : w.heap[b + 2]? = some (.cells cn 56 (0, 0))
theorem CB.step {b : Nat} {cs cn : Array Value} {w w' : World} (h : CB b cs cn w) {ob : Option Nat} (hg : w.grownBy w' ob) (ho : ∀ x, ob = some x → b + 3 ≤ x) : CB b cs cn w' :=
  ⟨(hg.block _ (Array.getElem?_eq_some_iff.1 h.box).1 (fun e => by have := ho _ e.symm; omega)).trans h.box, (hg.block _ (Array.getElem?_eq_some_iff.1 h.res).1 (fun e => by have := ho _ e.symm; omega)).trans h.res, (hg.block _ (Array.getElem?_eq_some_iff.1 h.n).1 (fun e => by have := ho _ e.symm; omega)).trans h.n⟩
theorem CB.set {b : Nat} {cs cn : Array Value} {w : World} (h : CB b cs cn w) (off : Nat) (v : Value) : CB b cs (cn.setIfInBounds off v) (w.setCell ⟨b + 2, off, none⟩ v) :=
  ⟨(heap_setCell_other w _ _ _ (by simp)).trans h.box, (heap_setCell_other w _ _ _ (by simp)).trans h.res, heap_setCell_same w _ off _ _ _ h.n⟩

set_option maxRecDepth 100000 in
set_option maxHeartbeats 8000000 in
theorem copy_any (m : MetaD) (p : Places) (w : World) (h : MIn w m p) : Calls Tryd.prog 59 #[metaV m p] w fun e w' => ∃ T qs ks qe ke qg kg qt kt, e = .returned (metaV { m with toks := T } ⟨qs, ks, qe, ke, qg, kg, qt, kt⟩) ∧
    CW w.heap.size w m (.slice qs m.slots.length ks) (.slice qe m.epochs.length ke) (.slice qg m.segs.length kg) (.slice qt m.toks.length kt) m.toks.length T w' := by
  have HM := Lib.hid h
  clear h
  obtain ⟨i_slots, a1_slots, a2_slots, a3_slots, a4_slots⟩ := info_of (t := 90) (z := .agg #[.int .i64 0, .int .i64 0, .int .i64 0, .int .i64 0, .string ⟨#[]⟩, .string ⟨#[]⟩, .int .i64 0, .int .i64 0, .int .i64 0]) (s := 9) (b := 88) (by kernel_rfl)
  obtain ⟨i_epochs, a1_epochs, a2_epochs, a3_epochs, a4_epochs⟩ := info_of (t := 64) (z := .agg #[.int .u64 0, .string ⟨#[]⟩, .string ⟨#[]⟩, .string ⟨#[]⟩, .string ⟨#[]⟩]) (s := 5) (b := 72) (by kernel_rfl)
  obtain ⟨i_segs, a1_segs, a2_segs, a3_segs, a4_segs⟩ := info_of (t := 92) (z := .agg #[.int .u64 0, .int .u64 0, .int .u64 0]) (s := 3) (b := 24) (by kernel_rfl)
  obtain ⟨i_toks, a1_toks, a2_toks, a3_toks, a4_toks⟩ := info_of (t := 41) (z := .agg #[.int .i64 0, .string ⟨#[]⟩, .slice none 0 0, .string ⟨#[]⟩]) (s := 4) (b := 64) (by kernel_rfl)
  obtain ⟨i_int, a1_int, a2_int, a3_int, a4_int⟩ := info_of (t := 3) (z := .int .i64 0) (s := 1) (b := 8) (by kernel_rfl)
  rw [metaV_eq]
  have x11 : (metaA m p)[11]? = some (.slice p.qs m.slots.length p.ks) := rfl
  have x12 : (metaA m p)[12]? = some (.slice p.qe m.epochs.length p.ke) := rfl
  have x13 : (metaA m p)[13]? = some (.slice p.qg m.segs.length p.kg) := rfl
  have x26 : (metaA m p)[26]? = some (.slice p.qt m.toks.length p.kt) := rfl
  have hs27 : (metaA m p).size = 27 := rfl
  have h1c : (metaA m p).all (·.oneCell') = true := by rw [← Array.all_toList]; rfl
  have hi27 : (Tryd.prog.info? 56).map (·.size) = some 27 := by kernel_rfl
  generalize hcs : metaA m p = cs at *
  have HCS := Lib.hid hcs
  clear hcs
  go_enter Tryd.func59, Tryd.ntmps59
  go_upto_region 1 with fail
  have o0 : ((w.alloc (.cells cs 56)).alloc (.cells metaZ 56)).heap[w.heap.size]? = some (.cells cs 56 (0, 0)) := by rw [heap_alloc_old _ _ (by simp)]; exact heap_alloc_new w _
  have o1 : ((w.alloc (.cells cs 56)).alloc (.cells metaZ 56)).heap[w.heap.size + 1]? = some (.cells metaZ 56 (0, 0)) := by
    have := heap_alloc_new (w.alloc (.cells cs 56)) (.cells metaZ 56)
    simpa using this
  have b1 : w.grownBy ((w.alloc (.cells cs 56)).alloc (.cells metaZ 56)) none := Tree.grown_trans (World.grownBy_alloc w _ none) (World.grownBy_alloc _ _ none) (by simp)
  have z1 : ((w.alloc (.cells cs 56)).alloc (.cells metaZ 56)).heap.size = w.heap.size + 2 := by simp
  have hmz : (metaZ : Array Value) = metaZ := rfl
  unfold metaZ at o0 o1 b1 z1
  generalize (w.alloc (.cells cs 56)).alloc _ = w1 at *
  refine wp_region_lit ?_
  refine Tree.p_loadrow rfl _ _ rfl w.heap.size rfl o0 Tryd.underlying56 rfl (by rw [hs27]; exact hi27) ?_
  simp only [Act.put, List.setIfInBounds_toArray, List.set_cons_zero, List.set_cons_succ]
  refine Tree.p_new rfl 56 rfl (z := .agg metaZ) (by kernel_rfl) ?_
  simp only [Act.put, List.setIfInBounds_toArray, List.set_cons_zero, List.set_cons_succ]
  refine wpList_store_row rfl _ _ _ rfl w1.heap.size cs rfl rfl 56 metaZ (heap_alloc_new w1 _) (by rw [hs27]; exact hi27) (by rw [hs27]; rfl) h1c ?_
  rw [show Value.cells (.agg metaZ) = metaZ from rfl, World.setRow_alloc_new]
  refine wpList_nil ?_
  simp only [Act.put]
  have z2 : w.heap.size + 3 ≤ (w1.alloc (.cells cs 56)).heap.size := by simp [z1]
  have n2 := heap_alloc_new w1 (.cells cs 56)
  rw [z1] at n2
  have t2 : CB w.heap.size cs cs (w1.alloc (.cells cs 56)) := ⟨(heap_alloc_old w1 (.cells cs 56) (show w.heap.size < w1.heap.size by omega)).trans o0, (heap_alloc_old w1 (.cells cs 56) (show w.heap.size + 1 < w1.heap.size by omega)).trans o1, n2⟩
  have b2 : w.grownBy (w1.alloc (.cells cs 56)) none := Tree.grown_trans b1 (World.grownBy_alloc w1 _ none) (by simp)
  clear o0 o1 b1 n2 hmz
  generalize w1.alloc (.cells cs 56) = w2 at *
  rw [z1]
  clear z1
  go_upto_region 2 with fail
  refine wp_region_lit ?_
  refine Tree.p_empty rfl _ 90 rfl Tryd.underlying47 a1_slots ?_
  simp only [Act.put, List.setIfInBounds_toArray, List.set_cons_zero, List.set_cons_succ]
  have OE : (w2.alloc (.cells #[] 90)).ownsRow (w.heap.size + 3) 90 9 (.slice (some ⟨w2.heap.size, 0, none⟩) 0 0) 0 [] := by
    have := World.ownsRow_lit (base := w.heap.size + 3) (e := 90) (size := 9) w2 #[] 0 z2 (Nat.zero_le _) (by simp)
    simpa using this
  have ga : w2.grownBy (w2.alloc (.cells #[] 90)) none := World.grownBy_alloc w2 _ none
  have ta := t2.step ga (by simp)
  have za : w.heap.size + 3 ≤ (w2.alloc (.cells #[] 90)).heap.size := Nat.le_trans z2 ga.size
  have ba : w.grownBy (w2.alloc (.cells #[] 90)) none := Tree.grown_trans b2 ga (by simp)
  have hsa := World.size_alloc w2 (.cells #[] 90)
  clear ga t2 z2 b2
  generalize w2.alloc (.cells #[] 90) = wa at *
  refine Tree.p_field rfl _ _ _ rfl w.heap.size 0 rfl Tryd.underlying56 rfl (sz := 1) (by kernel_rfl) (by decide) 11 rfl ?_
  simp only [Act.put, List.setIfInBounds_toArray, List.set_cons_zero, List.set_cons_succ]
  refine Tree.p_load1 rfl _ _ rfl w.heap.size 11 rfl (.slice p.qs m.slots.length p.ks) ((cell_of_row wa _ 11 _ _ _ ta.box).trans x11) Tryd.underlying47 rfl ?_
  simp only [Act.put, List.setIfInBounds_toArray, List.set_cons_zero, List.set_cons_succ]
  refine App.wpList_append_src wa rfl _ _ 47 rfl (w.heap.size + 3) 90 i_slots (.agg #[.int .i64 0, .int .i64 0, .int .i64 0, .int .i64 0, .string ⟨#[]⟩, .string ⟨#[]⟩, .int .i64 0, .int .i64 0, .int .i64 0]) 9 88 Tryd.underlying47 a1_slots a2_slots a3_slots a4_slots rfl (by decide) _ 0 [] rfl OE p.qs m.slots.length p.ks (m.slots.flatMap slotC) rfl (flat_len (sz := 9) (fun _ => rfl) _) HM.out.s.nil (HM.out.s.lv.grown ba) (sl_one' _)
    (by have := (reach_le HM.out.s.reach (by decide) (by decide)).1; omega) (by have := (reach_le HM.out.s.reach (by decide) (by decide)).2.1; omega) za ?_
  intro v_slots wb hown gb _
  rw [Nat.zero_add, List.nil_append] at hown
  have tb := ta.step gb (fun b hb => (Step.own_lt OE hb).1)
  have zb := Nat.le_trans za gb.size
  have bb : w.grownBy wb none := Tree.grown_trans ba gb (fun b hb => by have := (Step.own_lt OE hb).1; omega)
  obtain ⟨q_slots, k_slots, rfl⟩ : ∃ q k, v_slots = .slice q m.slots.length k := by
    rcases hown.2 with ⟨h, h0⟩ | ⟨g, cap, cur, hv, _⟩
    · exact ⟨_, _, by rw [h0]; exact h⟩
    · exact ⟨_, _, hv⟩
  clear ta za ba gb OE hsa
  simp only [Act.put, List.setIfInBounds_toArray, List.set_cons_zero, List.set_cons_succ]
  refine Tree.p_field rfl _ _ _ rfl (w.heap.size + 2) 0 rfl Tryd.underlying56 rfl (sz := 1) (by kernel_rfl) (by decide) 11 rfl ?_
  simp only [Act.put, List.setIfInBounds_toArray, List.set_cons_zero, List.set_cons_succ]
  refine Tree.p_store1 rfl _ _ _ rfl (w.heap.size + 2) 11 rfl q_slots m.slots.length k_slots rfl (by kernel_rfl) tb.n (by simp [hs27]) ?_
  refine wpList_nil ?_
  simp only [Act.put]
  have gc : wb.grownBy (wb.setCell ⟨w.heap.size + 2, 11, none⟩ (.slice q_slots m.slots.length k_slots)) (some (w.heap.size + 2)) := Tree.grown_setCell (Tree.grown_refl wb) _ _
  have t3 := tb.set 11 (.slice q_slots m.slots.length k_slots)
  have z3 : w.heap.size + 3 ≤ (wb.setCell ⟨w.heap.size + 2, 11, none⟩ (.slice q_slots m.slots.length k_slots)).heap.size := Nat.le_trans zb gc.size
  have b3 : w.grownBy (wb.setCell ⟨w.heap.size + 2, 11, none⟩ (.slice q_slots m.slots.length k_slots)) none := Tree.grown_trans bb gc (fun b hb => by cases hb; omega)
  have offc : ∀ {e : TypeId}, Off wb (w.heap.size + 3) e (some (w.heap.size + 2)) := fun b hb => .inl (by cases hb; omega)
  have M_slots := own_off hown gc offc
  clear tb zb bb gc hown offc
  generalize wb.setCell ⟨w.heap.size + 2, 11, none⟩ (.slice q_slots m.slots.length k_slots) = w3 at *
  go_upto_region 3 with fail
  refine wp_region_lit ?_
  refine Tree.p_empty rfl _ 64 rfl Tryd.underlying48 a1_epochs ?_
  simp only [Act.put, List.setIfInBounds_toArray, List.set_cons_zero, List.set_cons_succ]
  have OE : (w3.alloc (.cells #[] 64)).ownsRow (w.heap.size + 3) 64 5 (.slice (some ⟨w3.heap.size, 0, none⟩) 0 0) 0 [] := by
    have := World.ownsRow_lit (base := w.heap.size + 3) (e := 64) (size := 5) w3 #[] 0 z3 (Nat.zero_le _) (by simp)
    simpa using this
  have ga : w3.grownBy (w3.alloc (.cells #[] 64)) none := World.grownBy_alloc w3 _ none
  have ta := t3.step ga (by simp)
  have za : w.heap.size + 3 ≤ (w3.alloc (.cells #[] 64)).heap.size := Nat.le_trans z3 ga.size
  have ba : w.grownBy (w3.alloc (.cells #[] 64)) none := Tree.grown_trans b3 ga (by simp)
  replace M_slots := own_off M_slots ga .none
  have hsa := World.size_alloc w3 (.cells #[] 64)
  clear ga t3 z3 b3
  generalize w3.alloc (.cells #[] 64) = wa at *
  refine Tree.p_field rfl _ _ _ rfl w.heap.size 0 rfl Tryd.underlying56 rfl (sz := 1) (by kernel_rfl) (by decide) 12 rfl ?_
  simp only [Act.put, List.setIfInBounds_toArray, List.set_cons_zero, List.set_cons_succ]
  refine Tree.p_load1 rfl _ _ rfl w.heap.size 12 rfl (.slice p.qe m.epochs.length p.ke) ((cell_of_row wa _ 12 _ _ _ ta.box).trans x12) Tryd.underlying48 rfl ?_
  simp only [Act.put, List.setIfInBounds_toArray, List.set_cons_zero, List.set_cons_succ]
  refine App.wpList_append_src wa rfl _ _ 48 rfl (w.heap.size + 3) 64 i_epochs (.agg #[.int .u64 0, .string ⟨#[]⟩, .string ⟨#[]⟩, .string ⟨#[]⟩, .string ⟨#[]⟩]) 5 72 Tryd.underlying48 a1_epochs a2_epochs a3_epochs a4_epochs rfl (by decide) _ 0 [] rfl OE p.qe m.epochs.length p.ke (m.epochs.flatMap epochC) rfl (flat_len (sz := 5) (fun _ => rfl) _) HM.out.e.nil (HM.out.e.lv.grown ba) (ep_one' _)
    (by have := (reach_le HM.out.e.reach (by decide) (by decide)).1; omega) (by have := (reach_le HM.out.e.reach (by decide) (by decide)).2.1; omega) za ?_
  intro v_epochs wb hown gb _
  rw [Nat.zero_add, List.nil_append] at hown
  have tb := ta.step gb (fun b hb => (Step.own_lt OE hb).1)
  have zb := Nat.le_trans za gb.size
  have bb : w.grownBy wb none := Tree.grown_trans ba gb (fun b hb => by have := (Step.own_lt OE hb).1; omega)
  replace M_slots := own_off M_slots gb (own_typed OE (by decide) _)
  obtain ⟨q_epochs, k_epochs, rfl⟩ : ∃ q k, v_epochs = .slice q m.epochs.length k := by
    rcases hown.2 with ⟨h, h0⟩ | ⟨g, cap, cur, hv, _⟩
    · exact ⟨_, _, by rw [h0]; exact h⟩
    · exact ⟨_, _, hv⟩
  clear ta za ba gb OE hsa
  simp only [Act.put, List.setIfInBounds_toArray, List.set_cons_zero, List.set_cons_succ]
  refine Tree.p_field rfl _ _ _ rfl (w.heap.size + 2) 0 rfl Tryd.underlying56 rfl (sz := 1) (by kernel_rfl) (by decide) 12 rfl ?_
  simp only [Act.put, List.setIfInBounds_toArray, List.set_cons_zero, List.set_cons_succ]
  refine Tree.p_store1 rfl _ _ _ rfl (w.heap.size + 2) 12 rfl q_epochs m.epochs.length k_epochs rfl (by kernel_rfl) tb.n (by simp [hs27]) ?_
  refine wpList_nil ?_
  simp only [Act.put]
  have gc : wb.grownBy (wb.setCell ⟨w.heap.size + 2, 12, none⟩ (.slice q_epochs m.epochs.length k_epochs)) (some (w.heap.size + 2)) := Tree.grown_setCell (Tree.grown_refl wb) _ _
  have t4 := tb.set 12 (.slice q_epochs m.epochs.length k_epochs)
  have z4 : w.heap.size + 3 ≤ (wb.setCell ⟨w.heap.size + 2, 12, none⟩ (.slice q_epochs m.epochs.length k_epochs)).heap.size := Nat.le_trans zb gc.size
  have b4 : w.grownBy (wb.setCell ⟨w.heap.size + 2, 12, none⟩ (.slice q_epochs m.epochs.length k_epochs)) none := Tree.grown_trans bb gc (fun b hb => by cases hb; omega)
  have offc : ∀ {e : TypeId}, Off wb (w.heap.size + 3) e (some (w.heap.size + 2)) := fun b hb => .inl (by cases hb; omega)
  have M_epochs := own_off hown gc offc
  replace M_slots := own_off M_slots gc offc
  clear tb zb bb gc hown offc
  generalize wb.setCell ⟨w.heap.size + 2, 12, none⟩ (.slice q_epochs m.epochs.length k_epochs) = w4 at *
  go_upto_region 4 with fail
  refine wp_region_lit ?_
  refine Tree.p_empty rfl _ 92 rfl Tryd.underlying49 a1_segs ?_
  simp only [Act.put, List.setIfInBounds_toArray, List.set_cons_zero, List.set_cons_succ]
  have OE : (w4.alloc (.cells #[] 92)).ownsRow (w.heap.size + 3) 92 3 (.slice (some ⟨w4.heap.size, 0, none⟩) 0 0) 0 [] := by
    have := World.ownsRow_lit (base := w.heap.size + 3) (e := 92) (size := 3) w4 #[] 0 z4 (Nat.zero_le _) (by simp)
    simpa using this
  have ga : w4.grownBy (w4.alloc (.cells #[] 92)) none := World.grownBy_alloc w4 _ none
  have ta := t4.step ga (by simp)
  have za : w.heap.size + 3 ≤ (w4.alloc (.cells #[] 92)).heap.size := Nat.le_trans z4 ga.size
  have ba : w.grownBy (w4.alloc (.cells #[] 92)) none := Tree.grown_trans b4 ga (by simp)
  replace M_slots := own_off M_slots ga .none
  replace M_epochs := own_off M_epochs ga .none
  have hsa := World.size_alloc w4 (.cells #[] 92)
  clear ga t4 z4 b4
  generalize w4.alloc (.cells #[] 92) = wa at *
  refine Tree.p_field rfl _ _ _ rfl w.heap.size 0 rfl Tryd.underlying56 rfl (sz := 1) (by kernel_rfl) (by decide) 13 rfl ?_
  simp only [Act.put, List.setIfInBounds_toArray, List.set_cons_zero, List.set_cons_succ]
  refine Tree.p_load1 rfl _ _ rfl w.heap.size 13 rfl (.slice p.qg m.segs.length p.kg) ((cell_of_row wa _ 13 _ _ _ ta.box).trans x13) Tryd.underlying49 rfl ?_
  simp only [Act.put, List.setIfInBounds_toArray, List.set_cons_zero, List.set_cons_succ]
  refine App.wpList_append_src wa rfl _ _ 49 rfl (w.heap.size + 3) 92 i_segs (.agg #[.int .u64 0, .int .u64 0, .int .u64 0]) 3 24 Tryd.underlying49 a1_segs a2_segs a3_segs a4_segs rfl (by decide) _ 0 [] rfl OE p.qg m.segs.length p.kg (m.segs.flatMap sgC) rfl (flat_len (sz := 3) (fun _ => rfl) _) HM.out.g.nil (HM.out.g.lv.grown ba) (sg_one' _)
    (by have := (reach_le HM.out.g.reach (by decide) (by decide)).1; omega) (by have := (reach_le HM.out.g.reach (by decide) (by decide)).2.1; omega) za ?_
  intro v_segs wb hown gb _
  rw [Nat.zero_add, List.nil_append] at hown
  have tb := ta.step gb (fun b hb => (Step.own_lt OE hb).1)
  have zb := Nat.le_trans za gb.size
  have bb : w.grownBy wb none := Tree.grown_trans ba gb (fun b hb => by have := (Step.own_lt OE hb).1; omega)
  replace M_slots := own_off M_slots gb (own_typed OE (by decide) _)
  replace M_epochs := own_off M_epochs gb (own_typed OE (by decide) _)
  obtain ⟨q_segs, k_segs, rfl⟩ : ∃ q k, v_segs = .slice q m.segs.length k := by
    rcases hown.2 with ⟨h, h0⟩ | ⟨g, cap, cur, hv, _⟩
    · exact ⟨_, _, by rw [h0]; exact h⟩
    · exact ⟨_, _, hv⟩
  clear ta za ba gb OE hsa
  simp only [Act.put, List.setIfInBounds_toArray, List.set_cons_zero, List.set_cons_succ]
  refine Tree.p_field rfl _ _ _ rfl (w.heap.size + 2) 0 rfl Tryd.underlying56 rfl (sz := 1) (by kernel_rfl) (by decide) 13 rfl ?_
  simp only [Act.put, List.setIfInBounds_toArray, List.set_cons_zero, List.set_cons_succ]
  refine Tree.p_store1 rfl _ _ _ rfl (w.heap.size + 2) 13 rfl q_segs m.segs.length k_segs rfl (by kernel_rfl) tb.n (by simp [hs27]) ?_
  refine wpList_nil ?_
  simp only [Act.put]
  have gc : wb.grownBy (wb.setCell ⟨w.heap.size + 2, 13, none⟩ (.slice q_segs m.segs.length k_segs)) (some (w.heap.size + 2)) := Tree.grown_setCell (Tree.grown_refl wb) _ _
  have t5 := tb.set 13 (.slice q_segs m.segs.length k_segs)
  have z5 : w.heap.size + 3 ≤ (wb.setCell ⟨w.heap.size + 2, 13, none⟩ (.slice q_segs m.segs.length k_segs)).heap.size := Nat.le_trans zb gc.size
  have b5 : w.grownBy (wb.setCell ⟨w.heap.size + 2, 13, none⟩ (.slice q_segs m.segs.length k_segs)) none := Tree.grown_trans bb gc (fun b hb => by cases hb; omega)
  have offc : ∀ {e : TypeId}, Off wb (w.heap.size + 3) e (some (w.heap.size + 2)) := fun b hb => .inl (by cases hb; omega)
  have M_segs := own_off hown gc offc
  replace M_slots := own_off M_slots gc offc
  replace M_epochs := own_off M_epochs gc offc
  clear tb zb bb gc hown offc
  generalize wb.setCell ⟨w.heap.size + 2, 13, none⟩ (.slice q_segs m.segs.length k_segs) = w5 at *
  go_upto_region 5 with fail
  refine wp_region_lit ?_
  refine Tree.p_field rfl _ _ _ rfl (w.heap.size + 2) 0 rfl Tryd.underlying56 rfl (sz := 1) (by kernel_rfl) (by decide) 26 rfl ?_
  simp only [Act.put, List.setIfInBounds_toArray, List.set_cons_zero, List.set_cons_succ]
  refine Tree.p_store1 rfl _ _ _ rfl (w.heap.size + 2) 26 rfl none 0 0 rfl (by kernel_rfl) t5.n (by simp [hs27]) ?_
  refine wpList_nil ?_
  simp only [Act.put]
  have gc : w5.grownBy (w5.setCell ⟨w.heap.size + 2, 26, none⟩ (.slice none 0 0)) (some (w.heap.size + 2)) := Tree.grown_setCell (Tree.grown_refl w5) _ _
  have offc : ∀ {e : TypeId}, Off w5 (w.heap.size + 3) e (some (w.heap.size + 2)) := fun b hb => .inl (by cases hb; omega)
  have T6 := Lib.hid (t5.set 26 (.slice none 0 0))
  have C6 : Hid (CW (w.heap.size + 3) w m (.slice q_slots m.slots.length k_slots) (.slice q_epochs m.epochs.length k_epochs) (.slice q_segs m.segs.length k_segs) (.slice none 0 0) 0 [] (w5.setCell ⟨w.heap.size + 2, 26, none⟩ (.slice none 0 0))) := Lib.hid ⟨Tree.grown_trans b5 gc (fun b hb => by cases hb; omega), Nat.le_trans z5 gc.size, own_off M_slots gc offc, own_off M_epochs gc offc, own_off M_segs gc offc, rfl, World.ownsRow_nil _ _ _ _, fun i _ h => by simp at h⟩
  clear gc offc t5 z5 b5 M_slots M_epochs M_segs
  generalize w5.setCell ⟨w.heap.size + 2, 26, none⟩ (.slice none 0 0) = w6 at *
  obtain ⟨cn, hcn⟩ : ∃ cn : Array Value, ((cs.setIfInBounds 11 (.slice q_slots m.slots.length k_slots)).setIfInBounds 12 (.slice q_epochs m.epochs.length k_epochs)).setIfInBounds 13 (.slice q_segs m.segs.length k_segs) = cn := ⟨_, rfl⟩
  rw [hcn] at T6
  have hsn : cn.size = 27 := by rw [← hcn]; simp [hs27]
  have HCN := Lib.hid hcn
  clear hcn
  have hlen : m.toks.length ≤ 9223372036854775807 := Nat.le_trans HM.out.t.le (by have := HM.out.t.max; unfold maxLen at this; omega)
  go_wp2
  go_loopw [4] (fun i wr => ∃ (k : Nat) (T : List TokD) (qt : Option Addr) (kt : Nat), k ≤ m.toks.length ∧ i = .int .i64 k ∧ CW (w.heap.size + 3) w m (.slice q_slots m.slots.length k_slots) (.slice q_epochs m.epochs.length k_epochs) (.slice q_segs m.segs.length k_segs) (.slice qt k kt) k T wr ∧ CB w.heap.size cs (cn.setIfInBounds 26 (.slice qt k kt)) wr) (fun i _ => m.toks.length - (intOf i).toNat)
  case atStart => exact ⟨0, [], none, 0, by omega, rfl, C6.out, T6.out⟩
  case round =>
    obtain ⟨k, T, qt, kt, hk, rfl, hcw, hcb⟩ := hrel
    have HC := Lib.hid hcw
    have HB := Lib.hid hcb
    have y26 := (cell_of_row _ _ 26 _ _ _ hcb.box).trans x26
    have hbx := (Array.getElem?_eq_some_iff.1 hcb.box).1
    clear hcw hcb
    by_cases hlt : k < m.toks.length
    · obtain ⟨gq, oq, hq, E⟩ := lv_cells (sz := 4) (fun _ => rfl) (by decide) (HM.out.t.lv.grown HC.out.gr) k hlt
      obtain ⟨h1, h2, h3, h4, h5⟩ := HM.out.tok _ (List.getElem_mem hlt)
      have HE := Lib.hid E
      have hqw : gq < wr.heap.size := Frame.block_lt (E 0 _ rfl)
      clear E
      rw [hq] at y26
      have SZ : w.heap.size + 3 ≤ wr.heap.size := HC.out.sz
      go_upto_region 9 with fail
      refine wp_region_lit ?_
      refine Tree.p_field rfl _ _ _ rfl w.heap.size 0 rfl Tryd.underlying56 rfl (sz := 1) (by kernel_rfl) (by decide) 26 rfl ?_
      simp only [Act.put, List.setIfInBounds_toArray, List.set_cons_zero, List.set_cons_succ]
      refine Tree.p_load1 rfl _ _ rfl w.heap.size 26 rfl (.slice (some ⟨gq, oq, none⟩) m.toks.length p.kt) y26 Tryd.underlying54 rfl ?_
      simp only [Act.put, List.setIfInBounds_toArray, List.set_cons_zero, List.set_cons_succ]
      refine Step.p_move rfl _ rfl (.int .i64 k) rfl ?_
      simp only [Act.put, List.setIfInBounds_toArray, List.set_cons_zero, List.set_cons_succ]
      refine Step.p_index rfl _ 41 _ _ rfl gq oq m.toks.length p.kt rfl k rfl hlt 4 Tryd.underlying54 (by kernel_rfl) ?_
      simp only [Act.put, List.setIfInBounds_toArray, List.set_cons_zero, List.set_cons_succ]
      refine Tree.p_loadmid rfl _ _ rfl gq (oq + k * 4) rfl (tokC (m.toks[k]'hlt)) (fun j v hj => HE.out j v hj) Tryd.underlying41 rfl (by kernel_rfl) ?_
      simp only [Act.put, List.setIfInBounds_toArray, List.set_cons_zero, List.set_cons_succ]
      refine Tree.p_new rfl 41 rfl (z := .agg #[.int .i64 0, .string ⟨#[]⟩, .slice none 0 0, .string ⟨#[]⟩]) (by kernel_rfl) ?_
      simp only [Act.put, List.setIfInBounds_toArray, List.set_cons_zero, List.set_cons_succ]
      refine wpList_store_row rfl _ _ _ rfl wr.heap.size (tokC (m.toks[k]'hlt)).toArray rfl rfl 41 #[.int .i64 0, .string ⟨#[]⟩, .slice none 0 0, .string ⟨#[]⟩] (heap_alloc_new wr _) (by kernel_rfl) rfl (by rw [← Array.all_toList]; rfl) ?_
      rw [show Value.cells (.agg #[.int .i64 0, .string ⟨#[]⟩, .slice none 0 0, .string ⟨#[]⟩]) = #[.int .i64 0, .string ⟨#[]⟩, .slice none 0 0, .string ⟨#[]⟩] from rfl, World.setRow_alloc_new]
      refine wpList_nil ?_
      simp only [Act.put]
      have ga : wr.grownBy (wr.alloc (.cells (tokC (m.toks[k]'hlt)).toArray 41)) none := World.grownBy_alloc wr _ none
      have na := heap_alloc_new wr (.cells (tokC (m.toks[k]'hlt)).toArray 41)
      have SA : (wr.alloc (.cells (tokC (m.toks[k]'hlt)).toArray 41)).heap.size = wr.heap.size + 1 := World.size_alloc wr _
      clear y26
      generalize wr.alloc (.cells (tokC (m.toks[k]'hlt)).toArray 41) = wa at *
      go_upto_region 10 with fail
      refine wp_region_lit ?_
      refine Tree.p_empty rfl _ 3 rfl Tryd.underlying39 a1_int ?_
      simp only [Act.put, List.setIfInBounds_toArray, List.set_cons_zero, List.set_cons_succ]
      have OE : (wa.alloc (.cells #[] 3)).ownsRow (w.heap.size + 3) 3 1 (.slice (some ⟨wa.heap.size, 0, none⟩) 0 0) 0 [] := by
        have := World.ownsRow_lit (base := w.heap.size + 3) (e := 3) (size := 1) wa #[] 0 (by omega) (Nat.zero_le _) (by simp)
        simpa using this
      have gab : wa.grownBy (wa.alloc (.cells #[] 3)) none := World.grownBy_alloc wa _ none
      have SB := World.size_alloc wa (.cells #[] 3)
      generalize wa.alloc (.cells #[] 3) = wb at *
      have gb : wr.grownBy wb none := Tree.grown_trans ga gab (by simp)
      have nb := (gab.block wr.heap.size (by omega) (by simp)).trans na
      have zb := (cell_of_row _ _ 26 _ _ _ (HB.out.step gb (by simp)).box).trans (x26.trans (by rw [hq]))
      refine Tree.p_field rfl _ _ _ rfl w.heap.size 0 rfl Tryd.underlying56 rfl (sz := 1) (by kernel_rfl) (by decide) 26 rfl ?_
      simp only [Act.put, List.setIfInBounds_toArray, List.set_cons_zero, List.set_cons_succ]
      refine Tree.p_load1 rfl _ _ rfl w.heap.size 26 rfl (.slice (some ⟨gq, oq, none⟩) m.toks.length p.kt) zb Tryd.underlying54 rfl ?_
      simp only [Act.put, List.setIfInBounds_toArray, List.set_cons_zero, List.set_cons_succ]
      refine Step.p_move rfl _ rfl (.int .i64 k) rfl ?_
      simp only [Act.put, List.setIfInBounds_toArray, List.set_cons_zero, List.set_cons_succ]
      refine Step.p_index rfl _ 41 _ _ rfl gq oq m.toks.length p.kt rfl k rfl hlt 4 Tryd.underlying54 (by kernel_rfl) ?_
      simp only [Act.put, List.setIfInBounds_toArray, List.set_cons_zero, List.set_cons_succ]
      refine Tree.p_field rfl _ _ _ rfl gq (oq + k * 4) rfl Tryd.underlying41 rfl (sz := 1) (by kernel_rfl) (by decide) (oq + k * 4 + 2) rfl ?_
      simp only [Act.put, List.setIfInBounds_toArray, List.set_cons_zero, List.set_cons_succ]
      refine Tree.p_load1 rfl _ _ rfl gq (oq + k * 4 + 2) rfl (.slice (m.toks[k]'hlt).q (m.toks[k]'hlt).n (m.toks[k]'hlt).cap) ((World.cell?_of_block (gb.block gq hqw (by simp))).trans (HE.out 2 _ rfl)) Tryd.underlying39 rfl ?_
      simp only [Act.put, List.setIfInBounds_toArray, List.set_cons_zero, List.set_cons_succ]
      have hil := h4.below (below_of_gb (Tree.grown_trans HC.out.gr gb (by simp)))
      refine App.wpList_append_src wb rfl _ _ 39 rfl (w.heap.size + 3) 3 i_int (.int .i64 0) 1 8 Tryd.underlying39 a1_int a2_int a3_int a4_int rfl (by decide) _ 0 [] rfl OE (m.toks[k]'hlt).q (m.toks[k]'hlt).n (m.toks[k]'hlt).cap (intC (m.toks[k]'hlt).f (m.toks[k]'hlt).n) rfl (by simp [intC]) h3
        (fun j u hj => int_src hil j u hj) (int_one _ _) (by unfold maxLen at h2 ⊢; omega) (by omega) (by omega) ?_
      intro vi wc howi gbc _
      rw [Nat.zero_add, List.nil_append] at howi
      obtain ⟨qi, ci, rfl⟩ : ∃ qi ci, vi = .slice qi (m.toks[k]'hlt).n ci := by
        rcases howi.2 with ⟨h, h0⟩ | ⟨g, cap, cur, hv, _⟩
        · exact ⟨_, _, by rw [h0]; exact h⟩
        · exact ⟨_, _, hv⟩
      have gac : wa.grownBy wc none := Tree.grown_trans gab gbc (fun b hb => by cases hb; exact Nat.le_refl _)
      have gc : wr.grownBy wc none := Tree.grown_trans ga gac (by simp)
      have nc := (gac.block wr.heap.size (by omega) (by simp)).trans na
      clear zb hil OE nb gbc gb gab na
      simp only [Act.put, List.setIfInBounds_toArray, List.set_cons_zero, List.set_cons_succ]
      refine Tree.p_field rfl _ _ _ rfl wr.heap.size 0 rfl Tryd.underlying41 rfl (sz := 1) (by kernel_rfl) (by decide) 2 rfl ?_
      simp only [Act.put, List.setIfInBounds_toArray, List.set_cons_zero, List.set_cons_succ]
      refine Tree.p_store1 rfl _ _ _ rfl wr.heap.size 2 rfl qi (m.toks[k]'hlt).n ci rfl (by kernel_rfl) nc (by show 2 < 4; decide) ?_
      refine wpList_nil ?_
      simp only [Act.put]
      have gcd : wc.grownBy (wc.setCell ⟨wr.heap.size, 2, none⟩ (.slice qi (m.toks[k]'hlt).n ci)) (some wr.heap.size) := Tree.grown_setCell (Tree.grown_refl wc) _ _
      have gd : wr.grownBy (wc.setCell ⟨wr.heap.size, 2, none⟩ (.slice qi (m.toks[k]'hlt).n ci)) none := Tree.grown_trans gc gcd (fun b hb => by cases hb; exact Nat.le_refl _)
      have nd := heap_setCell_same wc wr.heap.size 2 _ _ (.slice qi (m.toks[k]'hlt).n ci) nc
      have howd := own_off howi gcd (fun b hb => by cases hb; exact .inr ⟨_, _, _, nc, by decide⟩)
      have SC : wr.heap.size + 1 ≤ (wc.setCell ⟨wr.heap.size, 2, none⟩ (.slice qi (m.toks[k]'hlt).n ci)).heap.size := by have := gac.size; have := gcd.size; omega
      clear gac gc ga nc gcd howi
      generalize wc.setCell ⟨wr.heap.size, 2, none⟩ (.slice qi (m.toks[k]'hlt).n ci) = wd at *
      have hd2 : ((tokC (m.toks[k]'hlt)).toArray.setIfInBounds 2 (.slice qi (m.toks[k]'hlt).n ci)) = (tokC { (m.toks[k]'hlt) with q := qi, cap := ci }).toArray := rfl
      rw [hd2] at nd
      obtain ⟨d2, he2⟩ : ∃ d2 : TokD, d2 = { (m.toks[k]'hlt) with q := qi, cap := ci } := ⟨_, rfl⟩
      rw [← he2] at nd
      have hown2 : wd.ownsRow (w.heap.size + 3) 3 1 (.slice d2.q (m.toks[k]'hlt).n d2.cap) (m.toks[k]'hlt).n (intC (m.toks[k]'hlt).f (m.toks[k]'hlt).n) := by rw [he2]; exact howd
      have TC := Lib.hid (show TokCp (w.heap.size + 3) wd (m.toks[k]'hlt) d2 from ⟨by rw [he2], by rw [he2], by rw [he2], by rw [he2], by rw [he2], hown2⟩)
      clear hd2 he2 howd hown2
      go_upto_region 11 with fail
      refine wp_region_lit ?_
      refine Tree.p_field rfl _ _ _ rfl (w.heap.size + 2) 0 rfl Tryd.underlying56 rfl (sz := 1) (by kernel_rfl) (by decide) 26 rfl ?_
      simp only [Act.put, List.setIfInBounds_toArray, List.set_cons_zero, List.set_cons_succ]
      refine Tree.p_load1 rfl _ _ rfl (w.heap.size + 2) 26 rfl (.slice qt k kt) ((cell_of_row _ _ 26 _ _ _ (HB.out.step gd (by simp)).n).trans (by simp [hsn])) Tryd.underlying54 rfl ?_
      simp only [Act.put, List.setIfInBounds_toArray, List.set_cons_zero, List.set_cons_succ]
      refine Tree.p_loadrow rfl _ _ rfl wr.heap.size rfl nd Tryd.underlying41 rfl (by kernel_rfl) ?_
      simp only [Act.put, List.setIfInBounds_toArray, List.set_cons_zero, List.set_cons_succ]
      refine Tree.p_one rfl 54 41 (.tmp 46) rfl (tokC d2).toArray (n := 4) rfl rfl Tryd.underlying54 (by kernel_rfl) (by kernel_rfl) (by decide) (by decide) ?_
      simp only [Act.put, List.setIfInBounds_toArray, List.set_cons_zero, List.set_cons_succ]
      have gde : wd.grownBy (wd.alloc (.cells (tokC d2).toArray 41)) none := World.grownBy_alloc wd _ none
      have ne := heap_alloc_new wd (.cells (tokC d2).toArray 41)
      generalize wd.alloc (.cells (tokC d2).toArray 41) = we at *
      have ge : wr.grownBy we none := Tree.grown_trans gd gde (by simp)
      have CE := Lib.hid (HC.out.step ge (by simp))
      have BE := Lib.hid (HB.out.step ge (by simp))
      have TE := Lib.hid (TC.out.off gde .none)
      clear HC HB TC gd nd ge
      refine App.wpList_append_src we rfl _ _ 54 rfl (w.heap.size + 3) 41 i_toks (.agg #[.int .i64 0, .string ⟨#[]⟩, .slice none 0 0, .string ⟨#[]⟩]) 4 64 Tryd.underlying54 a1_toks a2_toks a3_toks a4_toks rfl (by decide) _ k (T.flatMap tokC) rfl CE.out.t (some ⟨wd.heap.size, 0, none⟩) 1 1 (tokC d2) rfl rfl (fun h => by cases h)
        (fun j u hj => ⟨wd.heap.size, 0, rfl, by rw [Nat.zero_add, cell_of_row _ _ j _ _ _ ne]; simpa using hj⟩) (fun u hu => tk_one' [d2] u (by simpa using hu)) (by have := (reach_le HM.out.t.reach (by decide) (by decide)).1; omega)
        (by have hr := (reach_le HM.out.t.reach (by decide) (by decide)).2.1; have : (k + 1) * 64 ≤ (m.toks.length + 1) * 64 := Nat.mul_le_mul_right _ (by omega); omega) CE.out.sz ?_
      intro vt wf hot gef _
      have CF := Lib.hid (CE.out.more (by omega) hlt TE.out gef hot)
      have BF := Lib.hid (BE.out.step gef (fun b hb => (Step.own_lt CE.out.t hb).1))
      obtain ⟨q2, k2, rfl⟩ : ∃ q2 k2, vt = .slice q2 (k + 1) k2 := by
        rcases hot.2 with ⟨_, h⟩ | ⟨g, cap, cur, hv, _⟩
        · omega
        · exact ⟨_, _, hv⟩
      clear CE BE TE gef hot ne gde
      simp only [Act.put, List.setIfInBounds_toArray, List.set_cons_zero, List.set_cons_succ]
      refine Tree.p_field rfl _ _ _ rfl (w.heap.size + 2) 0 rfl Tryd.underlying56 rfl (sz := 1) (by kernel_rfl) (by decide) 26 rfl ?_
      simp only [Act.put, List.setIfInBounds_toArray, List.set_cons_zero, List.set_cons_succ]
      refine Tree.p_store1 rfl _ _ _ rfl (w.heap.size + 2) 26 rfl q2 (k + 1) k2 rfl (by kernel_rfl) BF.out.n (by simp [hsn]) ?_
      refine wpList_nil ?_
      simp only [Act.put]
      have gfg : wf.grownBy (wf.setCell ⟨w.heap.size + 2, 26, none⟩ (.slice q2 (k + 1) k2)) (some (w.heap.size + 2)) := Tree.grown_setCell (Tree.grown_refl wf) _ _
      have CG := Lib.hid (CF.out.step gfg (fun b hb => by cases hb; omega))
      have BG0 := BF.out.set 26 (.slice q2 (k + 1) k2)
      rw [Array.setIfInBounds_setIfInBounds] at BG0
      have BG := Lib.hid BG0
      clear CF BF BG0 gfg
      generalize wf.setCell ⟨w.heap.size + 2, 26, none⟩ (.slice q2 (k + 1) k2) = wg at *
      go_wp2
      go_roundw
      case rel => exact ⟨k + 1, _, _, _, by omega, rfl, CG.out, BG.out⟩
      case measure => simp [intOf]; omega
    · obtain rfl : k = m.toks.length := by omega
      have hl : T.length = m.toks.length := HC.out.len
      have hcf : cn.setIfInBounds 26 (.slice qt m.toks.length kt) = metaA { m with toks := T } ⟨q_slots, k_slots, q_epochs, k_epochs, q_segs, k_segs, qt, kt⟩ := by
        rw [← HCN.out, ← HCS.out]
        simp only [metaA, hl]
        rfl
      have hf1 : (metaA { m with toks := T } ⟨q_slots, k_slots, q_epochs, k_epochs, q_segs, k_segs, qt, kt⟩).all (·.oneCell') = true := by rw [← Array.all_toList]; rfl
      have hf27 : (metaA { m with toks := T } ⟨q_slots, k_slots, q_epochs, k_epochs, q_segs, k_segs, qt, kt⟩).size = 27 := rfl
      have hn := HB.out.n
      have hr := HB.out.res
      rw [hcf] at hn
      have HMV := Lib.hid (metaV_eq { m with toks := T } ⟨q_slots, k_slots, q_epochs, k_epochs, q_segs, k_segs, qt, kt⟩)
      generalize metaA { m with toks := T } ⟨q_slots, k_slots, q_epochs, k_epochs, q_segs, k_segs, qt, kt⟩ = cf at *
      go_upto_region 12 with fail
      clear y26
      refine wp_region_lit ?_
      refine Tree.p_loadrow rfl _ _ rfl (w.heap.size + 2) rfl hn Tryd.underlying56 rfl (by rw [hf27]; exact hi27) ?_
      simp only [Act.put, List.setIfInBounds_toArray, List.set_cons_zero, List.set_cons_succ]
      refine wpList_store_row rfl _ _ _ rfl (w.heap.size + 1) cf rfl rfl 56 metaZ hr (by rw [hf27]; exact hi27) (by rw [hf27]; rfl) hf1 ?_
      refine wpList_nil ?_
      simp only [Act.put]
      have hr4 := setRow_heap wr (w.heap.size + 1) metaZ cf _ _ hr
      have g4 : wr.grownBy (wr.setRow (w.heap.size + 1) cf) (some (w.heap.size + 1)) := ⟨rfl, rfl, rfl, by simp, fun k hk hne => setRow_other _ _ _ _ (fun e => hne (by rw [e]))⟩
      have C4 := Lib.hid (HC.out.step g4 (fun b hb => by cases hb; omega))
      clear hn hr g4
      generalize wr.setRow (w.heap.size + 1) cf = w4 at *
      go_wp2
      refine bodyPost_ret (v := .agg cf) (results_cell_row rfl _ _ (w.heap.size + 1) _ cf _ _ rfl hr4 Tryd.underlying56 rfl (by rw [hf27]; exact hi27)) rfl ?_
      exact ⟨T, q_slots, k_slots, q_epochs, k_epochs, q_segs, k_segs, qt, kt, by rw [HMV.out], cw_mono C4.out (by omega)⟩
end Go.Proofs.YtfchbodbkdkcfaaDoor.Meta
