/- cofferlaw09.twin: metadata that share nothing, with a mark behind each list. -/
import Derived.Test.YtfchbodbkdkcfaaDoorTwinA
namespace Go.Proofs.YtfchbodbkdkcfaaDoor.Meta
open Go.RowKit Go.Lib Go.Proofs.YtfchbodbkdkcfaaDoor.Coll

theorem Marked.drew {lo : Nat} {w : World} {e : TypeId} {size : Nat} {q : Option Addr} {cap n k : Nat} {xs ms : List Value} (h : Marked lo w e size q cap n k xs ms) : Marked lo w.drew e size q cap n k xs ms := ⟨h.ad, h.own, h.room, h.max⟩
theorem gb_drew {w w' : World} {ob : Option Nat} (h : w.grownBy w' ob) : w.grownBy w'.drew ob := ⟨h.os, h.tape, h.output, h.size, h.block⟩
/-- the marks of cofferlaw09 -/
def mS9 : List Value := [.int .i64 (-77), .int .i64 0, .int .i64 0, .int .i64 0, .string ⟨#[]⟩, .string ⟨#[]⟩, .int .i64 0, .int .i64 0, .int .i64 0]
def mE9 : List Value := [.int .u64 77, .string ⟨#[]⟩, .string ⟨#[]⟩, .string ⟨#[]⟩, .string ⟨#[]⟩]
def mG9 : List Value := [.int .u64 77, .int .u64 0, .int .u64 0]
def mT9 : List Value := [.int .i64 (-77), .string ⟨#[]⟩, .slice none 0 0, .string ⟨#[]⟩]
/-- what the walk holds of the three blocks of its own -/
structure TB (b : Nat) (cs cr cn : Array Value) (w : World) : Prop where
  box : w.heap[b]? = some (.cells cs 56 (0, 0))
  res : w.heap[b + 1]? = some (.cells cr 56 (0, 0))
  n : w.heap[b + 2]? = some (.cells cn 56 (0, 0))
theorem TB.step {b : Nat} {cs cr cn : Array Value} {w w' : World} (h : TB b cs cr cn w) {ob : Option Nat} (hg : w.grownBy w' ob) (ho : ∀ x, ob = some x → b + 3 ≤ x) : TB b cs cr cn w' :=
  ⟨(hg.block _ (Array.getElem?_eq_some_iff.1 h.box).1 (fun e => by have := ho _ e.symm; omega)).trans h.box, (hg.block _ (Array.getElem?_eq_some_iff.1 h.res).1 (fun e => by have := ho _ e.symm; omega)).trans h.res, (hg.block _ (Array.getElem?_eq_some_iff.1 h.n).1 (fun e => by have := ho _ e.symm; omega)).trans h.n⟩
theorem TB.stepn {b : Nat} {cs cr cn cn' : Array Value} {w w' : World} (h : TB b cs cr cn w) (hg : w.grownBy w' (some (b + 2))) (hn : w'.heap[b + 2]? = some (.cells cn' 56 (0, 0))) : TB b cs cr cn' w' :=
  ⟨(hg.block _ (Array.getElem?_eq_some_iff.1 h.box).1 (by simp)).trans h.box, (hg.block _ (Array.getElem?_eq_some_iff.1 h.res).1 (by simp)).trans h.res, hn⟩
theorem TB.cn26 {b : Nat} {cs cr cn : Array Value} {w : World} (h : TB b cs cr cn w) {v : Value} (hv : cn[26]? = some v) : w.cell? ⟨b + 2, 26, none⟩ = some v := (cell_of_row w _ 26 _ _ _ h.n).trans hv
/-- what a token's copy needs -/
def TS (b gq o : Nat) (cs cr cn : Array Value) (x : Value) (w : World) : Prop := TB b cs cr cn w ∧ w.cell? ⟨gq, o, none⟩ = some x

set_option maxRecDepth 100000 in
set_option maxHeartbeats 8000000 in
theorem twin_any (m : MetaD) (p : Places) (w : World) (h : MIn w m p) : Calls Tryd.prog 24 #[metaV m p] w fun e w' => ∃ m2 p2, e = .returned (metaV m2 p2) ∧ Twin w.heap.size 1 mS9 mE9 mG9 mT9 w' m m2 p2 ∧ Below w.heap.size w w' := by
  have HM := Lib.hid h
  clear h
  obtain ⟨i_slots, a1_slots, a2_slots, a3_slots, a4_slots⟩ := info_of (t := 90) (z := .agg #[.int .i64 0, .int .i64 0, .int .i64 0, .int .i64 0, .string ⟨#[]⟩, .string ⟨#[]⟩, .int .i64 0, .int .i64 0, .int .i64 0]) (s := 9) (b := 88) (by kernel_rfl)
  obtain ⟨i_epochs, a1_epochs, a2_epochs, a3_epochs, a4_epochs⟩ := info_of (t := 64) (z := .agg #[.int .u64 0, .string ⟨#[]⟩, .string ⟨#[]⟩, .string ⟨#[]⟩, .string ⟨#[]⟩]) (s := 5) (b := 72) (by kernel_rfl)
  obtain ⟨i_segs, a1_segs, a2_segs, a3_segs, a4_segs⟩ := info_of (t := 92) (z := .agg #[.int .u64 0, .int .u64 0, .int .u64 0]) (s := 3) (b := 24) (by kernel_rfl)
  obtain ⟨i_toks, a1_toks, a2_toks, a3_toks, a4_toks⟩ := info_of (t := 41) (z := .agg #[.int .i64 0, .string ⟨#[]⟩, .slice none 0 0, .string ⟨#[]⟩]) (s := 4) (b := 64) (by kernel_rfl)
  rw [metaV_eq]
  have x11 : (metaA m p)[11]? = some (.slice p.qs m.slots.length p.ks) := rfl
  have x12 : (metaA m p)[12]? = some (.slice p.qe m.epochs.length p.ke) := rfl
  have x13 : (metaA m p)[13]? = some (.slice p.qg m.segs.length p.kg) := rfl
  have x26 : (metaA m p)[26]? = some (.slice p.qt m.toks.length p.kt) := rfl
  have hs27 : (metaA m p).size = 27 := rfl
  have h1c : (metaA m p).all (·.oneCell') = true := by rw [← Array.all_toList]; rfl
  have hi27 : (Tryd.prog.info? 56).map (·.size) = some 27 := by kernel_rfl
  generalize hcs : metaA m p = cs at *
  have HCS := Lib.hid hcs
  clear hcs
  go_enter Tryd.func24, Tryd.ntmps24
  go_upto_region 1 with fail
  have o0 : ((w.alloc (.cells cs 56)).alloc (.cells metaZ 56)).heap[w.heap.size]? = some (.cells cs 56 (0, 0)) := by rw [heap_alloc_old _ _ (by simp)]; exact heap_alloc_new w _
  have o1 : ((w.alloc (.cells cs 56)).alloc (.cells metaZ 56)).heap[w.heap.size + 1]? = some (.cells metaZ 56 (0, 0)) := by
    have := heap_alloc_new (w.alloc (.cells cs 56)) (.cells metaZ 56)
    simpa using this
  have b1 : w.grownBy ((w.alloc (.cells cs 56)).alloc (.cells metaZ 56)) none := Tree.grown_trans (World.grownBy_alloc w _ none) (World.grownBy_alloc _ _ none) (by simp)
  have z1 : ((w.alloc (.cells cs 56)).alloc (.cells metaZ 56)).heap.size = w.heap.size + 2 := by simp
  unfold metaZ at o0 o1 b1 z1
  generalize (w.alloc (.cells cs 56)).alloc _ = w1 at *
  refine wp_region_lit ?_
  refine Tree.p_loadrow rfl _ _ rfl w.heap.size rfl o0 Tryd.underlying56 rfl (by rw [hs27]; exact hi27) ?_
  simp only [Act.put, List.setIfInBounds_toArray, List.set_cons_zero, List.set_cons_succ]
  refine Tree.p_new rfl 56 rfl (z := .agg metaZ) (by kernel_rfl) ?_
  simp only [Act.put, List.setIfInBounds_toArray, List.set_cons_zero, List.set_cons_succ]
  refine wpList_store_row rfl _ _ _ rfl w1.heap.size cs rfl rfl 56 metaZ (heap_alloc_new w1 _) (by rw [hs27]; exact hi27) (by rw [hs27]; rfl) h1c ?_
  rw [show Value.cells (.agg metaZ) = metaZ from rfl, World.setRow_alloc_new]
  refine wpList_nil ?_
  simp only [Act.put]
  have z2 : w.heap.size + 3 ≤ (w1.alloc (.cells cs 56)).heap.size := by simp [z1]
  have n2 := heap_alloc_new w1 (.cells cs 56)
  rw [z1] at n2
  have t2 : TB w.heap.size cs metaZ cs (w1.alloc (.cells cs 56)) := ⟨(heap_alloc_old w1 (.cells cs 56) (show w.heap.size < w1.heap.size by omega)).trans o0, (heap_alloc_old w1 (.cells cs 56) (show w.heap.size + 1 < w1.heap.size by omega)).trans o1, n2⟩
  have b2 : w.grownBy (w1.alloc (.cells cs 56)) none := Tree.grown_trans b1 (World.grownBy_alloc w1 _ none) (by simp)
  clear o0 o1 b1 n2
  generalize w1.alloc (.cells cs 56) = w2 at *
  rw [z1]
  clear z1
  go_upto_region 2 with fail
  refine Step.begin_ (S := fun w' => w'.heap[w.heap.size]? = some (.cells cs 56 (0, 0))) 13 rfl (by kernel_rfl) t2.box ?_
  intro hS
  refine Tree.t_field (i := 1) rfl rfl (by kernel_rfl) (by kernel_rfl) (by kernel_rfl) hS _ _ _ rfl w.heap.size 0 rfl Tryd.underlying56 rfl (sz := 1) (by kernel_rfl) (by decide) 11 rfl ?_
  simp only [Act.put, List.setIfInBounds_toArray, List.set_cons_zero, List.set_cons_succ]
  refine Tree.t_load1 (i := 2) rfl rfl (by kernel_rfl) (by kernel_rfl) (by kernel_rfl) hS _ _ rfl w.heap.size 11 rfl (.slice p.qs m.slots.length p.ks) (fun w' hw' => (cell_of_row w' _ 11 _ _ _ hw').trans x11) Tryd.underlying47 rfl ?_
  simp only [Act.put, List.setIfInBounds_toArray, List.set_cons_zero, List.set_cons_succ]
  refine Step.t_val (i := 4) rfl rfl (by kernel_rfl) (by kernel_rfl) (by kernel_rfl) hS (.agg #[.int .i64 (-77), .int .i64 0, .int .i64 0, .int .i64 0, .string ⟨#[]⟩, .string ⟨#[]⟩, .int .i64 0, .int .i64 0, .int .i64 0]) (fun w' _ => by unfold execOp; go_simp) ?_
  simp only [Act.put, List.setIfInBounds_toArray, List.set_cons_zero, List.set_cons_succ]
  refine Tree.t_field (i := 7) rfl rfl (by kernel_rfl) (by kernel_rfl) (by kernel_rfl) hS _ _ _ rfl w.heap.size 0 rfl Tryd.underlying56 rfl (sz := 1) (by kernel_rfl) (by decide) 11 rfl ?_
  simp only [Act.put, List.setIfInBounds_toArray, List.set_cons_zero, List.set_cons_succ]
  refine Tree.t_load1 (i := 8) rfl rfl (by kernel_rfl) (by kernel_rfl) (by kernel_rfl) hS _ _ rfl w.heap.size 11 rfl (.slice p.qs m.slots.length p.ks) (fun w' hw' => (cell_of_row w' _ 11 _ _ _ hw').trans x11) Tryd.underlying47 rfl ?_
  simp only [Act.put, List.setIfInBounds_toArray, List.set_cons_zero, List.set_cons_succ]
  refine Step.t_val (i := 9) rfl rfl (by kernel_rfl) (by kernel_rfl) (by kernel_rfl) hS (.int .i64 m.slots.length) (fun w' _ => by unfold execOp; go_simp) ?_
  simp only [Act.put, List.setIfInBounds_toArray, List.set_cons_zero, List.set_cons_succ]
  refine Tree.copy_tail (i0 := 0) (i3 := 3) (i5 := 5) (i6 := 6) (i10 := 10) (i11 := 11) (i12 := 12) 47 90 (size := 9) (bytes := 88) Tryd.underlying47 a1_slots a2_slots a3_slots a4_slots rfl (by decide) (by decide) (by kernel_rfl)
    77 6 9 11 12 16 17 8 10 15 3 rfl (by decide) (by decide) p.qs m.slots.length p.ks #[.int .i64 (-77), .int .i64 0, .int .i64 0, .int .i64 0, .string ⟨#[]⟩, .string ⟨#[]⟩, .int .i64 0, .int .i64 0, .int .i64 0] (w.heap.size + 2) rfl rfl rfl rfl rfl (m.slots.flatMap slotC) (flat_len (sz := 9) (fun _ => rfl) _) HM.out.s.nil
    (HM.out.s.lv.grown (gb_drew b2)) (sl_one' _) (by intro u hu; simp at hu; rcases hu with rfl | rfl | rfl | rfl | rfl | rfl | rfl | rfl | rfl <;> rfl) (by have := (reach_le HM.out.s.reach (by decide) (by decide)).1; omega) (reach_le HM.out.s.reach (by decide) (by decide)).2.1
    rfl rfl rfl rfl rfl rfl rfl ⟨rfl, rfl⟩ ⟨rfl, rfl⟩ ⟨rfl, rfl⟩ ⟨rfl, rfl⟩ ⟨rfl, rfl⟩ ⟨rfl, rfl⟩ ⟨rfl, rfl⟩ rfl rfl rfl rfl rfl 56 6 rfl rfl Tryd.underlying56 rfl (by kernel_rfl) 11 rfl
    (by kernel_rfl) (by kernel_rfl) (by kernel_rfl) (by kernel_rfl) (by kernel_rfl) (by kernel_rfl) rfl rfl rfl (by kernel_rfl) rfl (by kernel_rfl) rfl (by kernel_rfl) rfl (by kernel_rfl) rfl (by kernel_rfl)
    (fun w' ob h ho => (h.block _ (by show _ < w2.heap.size; omega) (by rcases ho with rfl | rfl <;> simp)).trans hS) t2.n (by simp [hs27]) ?_
  clear hS
  intro g_slots c_slots v0_2 v3_2 v5_2 w3 ho_slots hn gr hc_slots hm_slots _
  simp only [Act.put, List.setIfInBounds_toArray, List.set_cons_zero, List.set_cons_succ]
  have t3 := TB.stepn (w := w2.drew) ⟨t2.box, t2.res, t2.n⟩ gr hn
  have z3 : w.heap.size + 3 ≤ w3.heap.size := Nat.le_trans z2 gr.size
  have b3 : w.grownBy w3 none := Tree.grown_trans (gb_drew b2) gr (fun b hb => by cases hb; omega)
  have M_slots : Marked (w.heap.size + 3) w3 90 9 (some ⟨g_slots, 0, none⟩) c_slots m.slots.length 1 (m.slots.flatMap slotC) [.int .i64 (-77), .int .i64 0, .int .i64 0, .int .i64 0, .string ⟨#[]⟩, .string ⟨#[]⟩, .int .i64 0, .int .i64 0, .int .i64 0] := Marked.mono (lo := w2.heap.size) ⟨⟨_, rfl⟩, ho_slots, hc_slots, hm_slots⟩ z2
  clear hn gr ho_slots hc_slots hm_slots t2 z2 b2
  go_upto_region 3 with fail
  refine Step.begin_ (S := fun w' => w'.heap[w.heap.size]? = some (.cells cs 56 (0, 0))) 13 rfl (by kernel_rfl) t3.box ?_
  intro hS
  refine Tree.t_field (i := 1) rfl rfl (by kernel_rfl) (by kernel_rfl) (by kernel_rfl) hS _ _ _ rfl w.heap.size 0 rfl Tryd.underlying56 rfl (sz := 1) (by kernel_rfl) (by decide) 12 rfl ?_
  simp only [Act.put, List.setIfInBounds_toArray, List.set_cons_zero, List.set_cons_succ]
  refine Tree.t_load1 (i := 2) rfl rfl (by kernel_rfl) (by kernel_rfl) (by kernel_rfl) hS _ _ rfl w.heap.size 12 rfl (.slice p.qe m.epochs.length p.ke) (fun w' hw' => (cell_of_row w' _ 12 _ _ _ hw').trans x12) Tryd.underlying48 rfl ?_
  simp only [Act.put, List.setIfInBounds_toArray, List.set_cons_zero, List.set_cons_succ]
  refine Step.t_val (i := 4) rfl rfl (by kernel_rfl) (by kernel_rfl) (by kernel_rfl) hS (.agg #[.int .u64 77, .string ⟨#[]⟩, .string ⟨#[]⟩, .string ⟨#[]⟩, .string ⟨#[]⟩]) (fun w' _ => by unfold execOp; go_simp) ?_
  simp only [Act.put, List.setIfInBounds_toArray, List.set_cons_zero, List.set_cons_succ]
  refine Tree.t_field (i := 7) rfl rfl (by kernel_rfl) (by kernel_rfl) (by kernel_rfl) hS _ _ _ rfl w.heap.size 0 rfl Tryd.underlying56 rfl (sz := 1) (by kernel_rfl) (by decide) 12 rfl ?_
  simp only [Act.put, List.setIfInBounds_toArray, List.set_cons_zero, List.set_cons_succ]
  refine Tree.t_load1 (i := 8) rfl rfl (by kernel_rfl) (by kernel_rfl) (by kernel_rfl) hS _ _ rfl w.heap.size 12 rfl (.slice p.qe m.epochs.length p.ke) (fun w' hw' => (cell_of_row w' _ 12 _ _ _ hw').trans x12) Tryd.underlying48 rfl ?_
  simp only [Act.put, List.setIfInBounds_toArray, List.set_cons_zero, List.set_cons_succ]
  refine Step.t_val (i := 9) rfl rfl (by kernel_rfl) (by kernel_rfl) (by kernel_rfl) hS (.int .i64 m.epochs.length) (fun w' _ => by unfold execOp; go_simp) ?_
  simp only [Act.put, List.setIfInBounds_toArray, List.set_cons_zero, List.set_cons_succ]
  refine Tree.copy_tail (i0 := 0) (i3 := 3) (i5 := 5) (i6 := 6) (i10 := 10) (i11 := 11) (i12 := 12) 48 64 (size := 5) (bytes := 72) Tryd.underlying48 a1_epochs a2_epochs a3_epochs a4_epochs rfl (by decide) (by decide) (by kernel_rfl)
    77 18 21 23 24 28 29 20 22 27 3 rfl (by decide) (by decide) p.qe m.epochs.length p.ke #[.int .u64 77, .string ⟨#[]⟩, .string ⟨#[]⟩, .string ⟨#[]⟩, .string ⟨#[]⟩] (w.heap.size + 2) rfl rfl rfl rfl rfl (m.epochs.flatMap epochC) (flat_len (sz := 5) (fun _ => rfl) _) HM.out.e.nil
    (HM.out.e.lv.grown (gb_drew b3)) (ep_one' _) (by intro u hu; simp at hu; rcases hu with rfl | rfl | rfl | rfl | rfl <;> rfl) (by have := (reach_le HM.out.e.reach (by decide) (by decide)).1; omega) (reach_le HM.out.e.reach (by decide) (by decide)).2.1
    rfl rfl rfl rfl rfl rfl rfl ⟨rfl, rfl⟩ ⟨rfl, rfl⟩ ⟨rfl, rfl⟩ ⟨rfl, rfl⟩ ⟨rfl, rfl⟩ ⟨rfl, rfl⟩ ⟨rfl, rfl⟩ rfl rfl rfl rfl rfl 56 7 rfl rfl Tryd.underlying56 rfl (by kernel_rfl) 12 rfl
    (by kernel_rfl) (by kernel_rfl) (by kernel_rfl) (by kernel_rfl) (by kernel_rfl) (by kernel_rfl) rfl rfl rfl (by kernel_rfl) rfl (by kernel_rfl) rfl (by kernel_rfl) rfl (by kernel_rfl) rfl (by kernel_rfl)
    (fun w' ob h ho => (h.block _ (by show _ < w3.heap.size; omega) (by rcases ho with rfl | rfl <;> simp)).trans hS) t3.n (by simp [hs27]) ?_
  clear hS
  intro g_epochs c_epochs v0_3 v3_3 v5_3 w4 ho_epochs hn gr hc_epochs hm_epochs _
  simp only [Act.put, List.setIfInBounds_toArray, List.set_cons_zero, List.set_cons_succ]
  have t4 := TB.stepn (w := w3.drew) ⟨t3.box, t3.res, t3.n⟩ gr hn
  have z4 : w.heap.size + 3 ≤ w4.heap.size := Nat.le_trans z3 gr.size
  have b4 : w.grownBy w4 none := Tree.grown_trans (gb_drew b3) gr (fun b hb => by cases hb; omega)
  have M_epochs : Marked (w.heap.size + 3) w4 64 5 (some ⟨g_epochs, 0, none⟩) c_epochs m.epochs.length 1 (m.epochs.flatMap epochC) [.int .u64 77, .string ⟨#[]⟩, .string ⟨#[]⟩, .string ⟨#[]⟩, .string ⟨#[]⟩] := Marked.mono (lo := w3.heap.size) ⟨⟨_, rfl⟩, ho_epochs, hc_epochs, hm_epochs⟩ z3
  replace M_slots := M_slots.drew.grown gr (fun b hb => .inl (by cases hb; omega))
  clear hn gr ho_epochs hc_epochs hm_epochs t3 z3 b3
  go_upto_region 4 with fail
  refine Step.begin_ (S := fun w' => w'.heap[w.heap.size]? = some (.cells cs 56 (0, 0))) 13 rfl (by kernel_rfl) t4.box ?_
  intro hS
  refine Tree.t_field (i := 1) rfl rfl (by kernel_rfl) (by kernel_rfl) (by kernel_rfl) hS _ _ _ rfl w.heap.size 0 rfl Tryd.underlying56 rfl (sz := 1) (by kernel_rfl) (by decide) 13 rfl ?_
  simp only [Act.put, List.setIfInBounds_toArray, List.set_cons_zero, List.set_cons_succ]
  refine Tree.t_load1 (i := 2) rfl rfl (by kernel_rfl) (by kernel_rfl) (by kernel_rfl) hS _ _ rfl w.heap.size 13 rfl (.slice p.qg m.segs.length p.kg) (fun w' hw' => (cell_of_row w' _ 13 _ _ _ hw').trans x13) Tryd.underlying49 rfl ?_
  simp only [Act.put, List.setIfInBounds_toArray, List.set_cons_zero, List.set_cons_succ]
  refine Step.t_val (i := 4) rfl rfl (by kernel_rfl) (by kernel_rfl) (by kernel_rfl) hS (.agg #[.int .u64 77, .int .u64 0, .int .u64 0]) (fun w' _ => by unfold execOp; go_simp) ?_
  simp only [Act.put, List.setIfInBounds_toArray, List.set_cons_zero, List.set_cons_succ]
  refine Tree.t_field (i := 7) rfl rfl (by kernel_rfl) (by kernel_rfl) (by kernel_rfl) hS _ _ _ rfl w.heap.size 0 rfl Tryd.underlying56 rfl (sz := 1) (by kernel_rfl) (by decide) 13 rfl ?_
  simp only [Act.put, List.setIfInBounds_toArray, List.set_cons_zero, List.set_cons_succ]
  refine Tree.t_load1 (i := 8) rfl rfl (by kernel_rfl) (by kernel_rfl) (by kernel_rfl) hS _ _ rfl w.heap.size 13 rfl (.slice p.qg m.segs.length p.kg) (fun w' hw' => (cell_of_row w' _ 13 _ _ _ hw').trans x13) Tryd.underlying49 rfl ?_
  simp only [Act.put, List.setIfInBounds_toArray, List.set_cons_zero, List.set_cons_succ]
  refine Step.t_val (i := 9) rfl rfl (by kernel_rfl) (by kernel_rfl) (by kernel_rfl) hS (.int .i64 m.segs.length) (fun w' _ => by unfold execOp; go_simp) ?_
  simp only [Act.put, List.setIfInBounds_toArray, List.set_cons_zero, List.set_cons_succ]
  refine Tree.copy_tail (i0 := 0) (i3 := 3) (i5 := 5) (i6 := 6) (i10 := 10) (i11 := 11) (i12 := 12) 49 92 (size := 3) (bytes := 24) Tryd.underlying49 a1_segs a2_segs a3_segs a4_segs rfl (by decide) (by decide) (by kernel_rfl)
    77 30 33 35 36 40 41 32 34 39 3 rfl (by decide) (by decide) p.qg m.segs.length p.kg #[.int .u64 77, .int .u64 0, .int .u64 0] (w.heap.size + 2) rfl rfl rfl rfl rfl (m.segs.flatMap sgC) (flat_len (sz := 3) (fun _ => rfl) _) HM.out.g.nil
    (HM.out.g.lv.grown (gb_drew b4)) (sg_one' _) (by intro u hu; simp at hu; rcases hu with rfl | rfl | rfl <;> rfl) (by have := (reach_le HM.out.g.reach (by decide) (by decide)).1; omega) (reach_le HM.out.g.reach (by decide) (by decide)).2.1
    rfl rfl rfl rfl rfl rfl rfl ⟨rfl, rfl⟩ ⟨rfl, rfl⟩ ⟨rfl, rfl⟩ ⟨rfl, rfl⟩ ⟨rfl, rfl⟩ ⟨rfl, rfl⟩ ⟨rfl, rfl⟩ rfl rfl rfl rfl rfl 56 8 rfl rfl Tryd.underlying56 rfl (by kernel_rfl) 13 rfl
    (by kernel_rfl) (by kernel_rfl) (by kernel_rfl) (by kernel_rfl) (by kernel_rfl) (by kernel_rfl) rfl rfl rfl (by kernel_rfl) rfl (by kernel_rfl) rfl (by kernel_rfl) rfl (by kernel_rfl) rfl (by kernel_rfl)
    (fun w' ob h ho => (h.block _ (by show _ < w4.heap.size; omega) (by rcases ho with rfl | rfl <;> simp)).trans hS) t4.n (by simp [hs27]) ?_
  clear hS
  intro g_segs c_segs v0_4 v3_4 v5_4 w5 ho_segs hn gr hc_segs hm_segs _
  simp only [Act.put, List.setIfInBounds_toArray, List.set_cons_zero, List.set_cons_succ]
  have t5 := TB.stepn (w := w4.drew) ⟨t4.box, t4.res, t4.n⟩ gr hn
  have z5 : w.heap.size + 3 ≤ w5.heap.size := Nat.le_trans z4 gr.size
  have b5 : w.grownBy w5 none := Tree.grown_trans (gb_drew b4) gr (fun b hb => by cases hb; omega)
  have M_segs : Marked (w.heap.size + 3) w5 92 3 (some ⟨g_segs, 0, none⟩) c_segs m.segs.length 1 (m.segs.flatMap sgC) [.int .u64 77, .int .u64 0, .int .u64 0] := Marked.mono (lo := w4.heap.size) ⟨⟨_, rfl⟩, ho_segs, hc_segs, hm_segs⟩ z4
  replace M_slots := M_slots.drew.grown gr (fun b hb => .inl (by cases hb; omega))
  replace M_epochs := M_epochs.drew.grown gr (fun b hb => .inl (by cases hb; omega))
  clear hn gr ho_segs hc_segs hm_segs t4 z4 b4
  have e11 : (((cs.setIfInBounds 11 (.slice (some ⟨g_slots, 0, none⟩) m.slots.length c_slots)).setIfInBounds 12 (.slice (some ⟨g_epochs, 0, none⟩) m.epochs.length c_epochs)).setIfInBounds 13 (.slice (some ⟨g_segs, 0, none⟩) m.segs.length c_segs)).size = 27 := by simp [hs27]
  generalize hcn : ((cs.setIfInBounds 11 (.slice (some ⟨g_slots, 0, none⟩) m.slots.length c_slots)).setIfInBounds 12 (.slice (some ⟨g_epochs, 0, none⟩) m.epochs.length c_epochs)).setIfInBounds 13 (.slice (some ⟨g_segs, 0, none⟩) m.segs.length c_segs) = cn at *
  have HCN := Lib.hid hcn
  clear hcn
  go_upto_region 5 with fail
  refine wp_region_lit ?_
  refine Tree.p_empty rfl _ 41 rfl Tryd.underlying54 a1_toks ?_
  simp only [Act.put, List.setIfInBounds_toArray, List.set_cons_zero, List.set_cons_succ]
  have OE : (w5.alloc (.cells #[] 41)).ownsRow (w.heap.size + 3) 41 4 (.slice (some ⟨w5.heap.size, 0, none⟩) 0 0) 0 [] := by
    have := World.ownsRow_lit (base := w.heap.size + 3) (e := 41) (size := 4) w5 #[] 0 z5 (Nat.zero_le _) (by simp)
    simpa using this
  have g56 : w5.grownBy (w5.alloc (.cells #[] 41)) none := World.grownBy_alloc w5 _ none
  have t6 := t5.step g56 (by simp)
  have z6 : w.heap.size + 3 ≤ (w5.alloc (.cells #[] 41)).heap.size := Nat.le_trans z5 g56.size
  have b6 : w.grownBy (w5.alloc (.cells #[] 41)) none := Tree.grown_trans b5 g56 (by simp)
  replace M_slots := M_slots.grown g56 .none
  replace M_epochs := M_epochs.grown g56 .none
  replace M_segs := M_segs.grown g56 .none
  have h5s := (World.size_alloc w5 (.cells #[] 41))
  clear g56 t5 b5
  generalize w5.alloc (.cells #[] 41) = w6 at *
  refine Tree.p_field rfl _ _ _ rfl w.heap.size 0 rfl Tryd.underlying56 rfl (sz := 1) (by kernel_rfl) (by decide) 26 rfl ?_
  simp only [Act.put, List.setIfInBounds_toArray, List.set_cons_zero, List.set_cons_succ]
  refine Tree.p_load1 rfl _ _ rfl w.heap.size 26 rfl (.slice p.qt m.toks.length p.kt) ((cell_of_row w6 _ 26 _ _ _ t6.box).trans x26) Tryd.underlying54 rfl ?_
  simp only [Act.put, List.setIfInBounds_toArray, List.set_cons_zero, List.set_cons_succ]
  refine App.wpList_append_src w6 rfl _ _ 54 rfl (w.heap.size + 3) 41 i_toks (.agg #[.int .i64 0, .string ⟨#[]⟩, .slice none 0 0, .string ⟨#[]⟩]) 4 64 Tryd.underlying54 a1_toks a2_toks a3_toks a4_toks rfl (by decide) _ 0 [] rfl OE p.qt m.toks.length p.kt (m.toks.flatMap tokC) rfl (flat_len (sz := 4) (fun _ => rfl) _) HM.out.t.nil (HM.out.t.lv.grown b6) (tk_one' _)
    (by have := (reach_le HM.out.t.reach (by decide) (by decide)).1; omega) (by have := (reach_le HM.out.t.reach (by decide) (by decide)).2.1; omega) z6 ?_
  intro vt w7 ho_t g67 hvt
  have hvb : ∀ b, vt.ownBlock = some b → w.heap.size + 3 ≤ b := fun b hb => (Step.own_lt ho_t hb).1
  rw [Nat.zero_add, List.nil_append] at ho_t
  have offv : ∀ {e : TypeId} (he : e ≠ 41), Off w6 (w.heap.size + 3) e (Value.slice (some ⟨w5.heap.size, 0, none⟩) 0 0).ownBlock := fun he => tok_off OE he _
  have t7 := t6.step g67 (fun b hb => by cases hb; exact z5)
  have z7 := Nat.le_trans z6 g67.size
  have b7 : w.grownBy w7 none := Tree.grown_trans b6 g67 (fun b hb => by have := (Step.own_lt OE hb).1; omega)
  replace M_slots := M_slots.grown g67 (offv (by decide))
  replace M_epochs := M_epochs.grown g67 (offv (by decide))
  replace M_segs := M_segs.grown g67 (offv (by decide))
  obtain ⟨qv, cv, rfl⟩ : ∃ qv cv, vt = .slice qv m.toks.length cv := by
    rcases ho_t.2 with ⟨h, h0⟩ | ⟨g, cap, cur, hv, _⟩
    · exact ⟨_, _, by rw [h0]; exact h⟩
    · exact ⟨_, _, hv⟩
  clear offv g67 t6 b6 OE hvt h5s
  simp only [Act.put, List.setIfInBounds_toArray, List.set_cons_zero, List.set_cons_succ]
  refine Tree.p_field rfl _ _ _ rfl (w.heap.size + 2) 0 rfl Tryd.underlying56 rfl (sz := 1) (by kernel_rfl) (by decide) 26 rfl ?_
  simp only [Act.put, List.setIfInBounds_toArray, List.set_cons_zero, List.set_cons_succ]
  refine Tree.p_store1 rfl _ _ _ rfl (w.heap.size + 2) 26 rfl qv m.toks.length cv rfl (by kernel_rfl) t7.n (by rw [e11]; decide) ?_
  refine wpList_nil ?_
  simp only [Act.put]
  have g78 : w7.grownBy (w7.setCell ⟨w.heap.size + 2, 26, none⟩ (.slice qv m.toks.length cv)) (some (w.heap.size + 2)) := Tree.grown_setCell (Tree.grown_refl w7) _ _
  have t8 := t7.stepn g78 (heap_setCell_same w7 _ 26 _ _ _ t7.n)
  have off2 : ∀ {e : TypeId}, Off w7 (w.heap.size + 3) e (some (w.heap.size + 2)) := fun b hb => .inl (by cases hb; omega)
  have tw0 : TW mS9 mE9 mG9 (w.heap.size + 3) 1 w m ⟨some ⟨g_slots, 0, none⟩, c_slots, some ⟨g_epochs, 0, none⟩, c_epochs, some ⟨g_segs, 0, none⟩, c_segs, none, 0⟩ (.slice qv m.toks.length cv) 0 m.toks (w7.setCell ⟨w.heap.size + 2, 26, none⟩ (.slice qv m.toks.length cv)) :=
    ⟨Tree.grown_trans b7 g78 (fun b hb => by cases hb; omega), Nat.le_trans z7 g78.size, M_slots.grown g78 off2, M_epochs.grown g78 off2, M_segs.grown g78 off2, rfl, own_off ho_t g78 off2, fun i _ _ h => by omega, fun i _ => rfl⟩
  have e26 : (cn.setIfInBounds 26 (.slice qv m.toks.length cv))[26]? = some (.slice qv m.toks.length cv) := by simp [e11]
  generalize hcn2 : cn.setIfInBounds 26 (.slice qv m.toks.length cv) = cn2 at *
  have HCN2 := Lib.hid hcn2
  have TW0 := Lib.hid tw0
  have T8 := Lib.hid t8
  clear hcn2 off2 g78 t7 b7 M_slots M_epochs M_segs ho_t z5 z6 z7 tw0 t8
  generalize w7.setCell ⟨w.heap.size + 2, 26, none⟩ (.slice qv m.toks.length cv) = w8 at *
  have hlen : m.toks.length ≤ 9223372036854775807 := Nat.le_trans HM.out.t.le (by have := HM.out.t.max; unfold maxLen at this; omega)
  generalize hP2 : (⟨some ⟨g_slots, 0, none⟩, c_slots, some ⟨g_epochs, 0, none⟩, c_epochs, some ⟨g_segs, 0, none⟩, c_segs, none, 0⟩ : Places) = p2 at TW0
  have HP2 := Lib.hid hP2
  clear hP2
  go_wp2
  go_loopw [4] (fun i wr => ∃ (k : Nat) (T : List TokD), k ≤ m.toks.length ∧ i = .int .i64 k ∧ TW mS9 mE9 mG9 (w.heap.size + 3) 1 w m p2 (.slice qv m.toks.length cv) k T wr ∧ TB w.heap.size cs metaZ cn2 wr) (fun i _ => m.toks.length - (intOf i).toNat)
  case atStart => exact ⟨0, m.toks, by omega, rfl, TW0.out, T8.out⟩
  case round =>
    obtain ⟨k, T, hk, rfl, htw, htb⟩ := hrel
    have HTW := Lib.hid htw
    have HTB := Lib.hid htb
    have c26 := htb.cn26 e26
    clear htw htb TW0 T8
    by_cases hlt : k < m.toks.length
    · obtain ⟨gt, rfl⟩ : ∃ gt, qv = some ⟨gt, 0, none⟩ := by
        rcases HTW.out.own.2 with ⟨h, h0⟩ | ⟨g, cap, cur, hv, _⟩
        · omega
        · simp only [Value.slice.injEq] at hv
          exact ⟨g, hv.1⟩
      obtain ⟨gq, oq, hq, _, _, hcq, _⟩ := tok_cells (HM.out.t.lv.grown HTW.out.gr) k hlt
      rw [← Nat.add_assoc] at hcq
      have HCQ := Lib.hid hcq
      clear hcq
      go_upto_region 9 with fail
      clear c26
      refine Step.begin_ (S := TS w.heap.size gq (oq + k * 4 + 2) cs metaZ cn2 (.slice (m.toks[k]'hlt).q (m.toks[k]'hlt).n (m.toks[k]'hlt).cap)) 13 rfl (by kernel_rfl) ⟨⟨HTB.out.box, HTB.out.res, HTB.out.n⟩, HCQ.out⟩ ?_
      intro hS
      have SX := Lib.hid hS
      clear hS
      refine Tree.t_field (i := 0) rfl rfl (by kernel_rfl) (by kernel_rfl) (by kernel_rfl) SX.out _ _ _ rfl (w.heap.size + 2) 0 rfl Tryd.underlying56 rfl (sz := 1) (by kernel_rfl) (by decide) 26 rfl ?_
      simp only [Act.put, List.setIfInBounds_toArray, List.set_cons_zero, List.set_cons_succ]
      refine Tree.t_load1 (i := 1) rfl rfl (by kernel_rfl) (by kernel_rfl) (by kernel_rfl) SX.out _ _ rfl (w.heap.size + 2) 26 rfl (.slice (some ⟨gt, 0, none⟩) m.toks.length cv) (fun w' hw' => hw'.1.cn26 e26) Tryd.underlying54 rfl ?_
      simp only [Act.put, List.setIfInBounds_toArray, List.set_cons_zero, List.set_cons_succ]
      refine Step.t_move (i := 2) rfl rfl (by kernel_rfl) (by kernel_rfl) (by kernel_rfl) SX.out _ rfl (.int .i64 k) rfl ?_
      simp only [Act.put, List.setIfInBounds_toArray, List.set_cons_zero, List.set_cons_succ]
      refine Tree.t_field (i := 3) rfl rfl (by kernel_rfl) (by kernel_rfl) (by kernel_rfl) SX.out _ _ _ rfl w.heap.size 0 rfl Tryd.underlying56 rfl (sz := 1) (by kernel_rfl) (by decide) 26 rfl ?_
      simp only [Act.put, List.setIfInBounds_toArray, List.set_cons_zero, List.set_cons_succ]
      refine Tree.t_load1 (i := 4) rfl rfl (by kernel_rfl) (by kernel_rfl) (by kernel_rfl) SX.out _ _ rfl w.heap.size 26 rfl (.slice (some ⟨gq, oq, none⟩) m.toks.length p.kt) (fun w' hw' => (cell_of_row w' _ 26 _ _ _ hw'.1.box).trans (by rw [x26, hq])) Tryd.underlying54 rfl ?_
      simp only [Act.put, List.setIfInBounds_toArray, List.set_cons_zero, List.set_cons_succ]
      refine Step.t_move (i := 5) rfl rfl (by kernel_rfl) (by kernel_rfl) (by kernel_rfl) SX.out _ rfl (.int .i64 k) rfl ?_
      simp only [Act.put, List.setIfInBounds_toArray, List.set_cons_zero, List.set_cons_succ]
      refine Step.t_index (i := 6) rfl rfl (by kernel_rfl) (by kernel_rfl) (by kernel_rfl) SX.out _ 41 _ _ rfl gq oq m.toks.length p.kt rfl k rfl hlt 4 Tryd.underlying54 (by kernel_rfl) ?_
      simp only [Act.put, List.setIfInBounds_toArray, List.set_cons_zero, List.set_cons_succ]
      refine Tree.t_field (i := 7) rfl rfl (by kernel_rfl) (by kernel_rfl) (by kernel_rfl) SX.out _ _ _ rfl gq (oq + k * 4) rfl Tryd.underlying41 rfl (sz := 1) (by kernel_rfl) (by decide) (oq + k * 4 + 2) rfl ?_
      simp only [Act.put, List.setIfInBounds_toArray, List.set_cons_zero, List.set_cons_succ]
      refine Tree.t_load1 (i := 8) rfl rfl (by kernel_rfl) (by kernel_rfl) (by kernel_rfl) SX.out _ _ rfl gq (oq + k * 4 + 2) rfl (.slice (m.toks[k]'hlt).q (m.toks[k]'hlt).n (m.toks[k]'hlt).cap) (fun w' hw' => hw'.2) Tryd.underlying39 rfl ?_
      simp only [Act.put, List.setIfInBounds_toArray, List.set_cons_zero, List.set_cons_succ]
      obtain ⟨k1, k2, k3, k4, k5⟩ := HM.out.tok _ (List.getElem_mem hlt)
      refine Step.t_one (i := 9) rfl rfl (by kernel_rfl) ?_
      refine Step.w_callx 19 [.tmp 62] _ rfl Tryd.func19 (by kernel_rfl) rfl [.slice (m.toks[k]'hlt).q (m.toks[k]'hlt).n (m.toks[k]'hlt).cap] rfl (Tok.ints_any _ _ _ _ _ k5 k1 k3 ((k4.below (below_of_gb HTW.out.gr)).below (Below.refl _ _).drew)) ?_
      rintro e w9 ⟨gi, ci, rfl, hgi, hci, hcm, hrow, hb9⟩
      refine ⟨_, rfl, ?_⟩
      simp only [Act.put, List.setIfInBounds_toArray, List.set_cons_zero, List.set_cons_succ]
      have gw9 := gb_of_below hb9
      have TW9 := Lib.hid (HTW.out.step (w' := w9) ⟨gw9.os, gw9.tape, gw9.output, gw9.size, gw9.block⟩)
      have TB9 : TB w.heap.size cs metaZ cn2 w9 := TB.step (w := wr.drew) ⟨HTB.out.box, HTB.out.res, HTB.out.n⟩ gw9 (by simp)
      have S9 : TS w.heap.size gq (oq + k * 4 + 2) cs metaZ cn2 (.slice (m.toks[k]'hlt).q (m.toks[k]'hlt).n (m.toks[k]'hlt).cap) w9 := ⟨TB9, (World.cell?_of_block (gw9.block _ (Frame.block_lt SX.out.2) (by simp))).trans SX.out.2⟩
      refine ⟨S9, ?_⟩
      have SY := Lib.hid S9
      have HTB9 := Lib.hid TB9
      clear S9 TB9 gw9 k1 k2 k3 k4 k5 hb9
      refine Step.t_index (i := 10) rfl rfl (by kernel_rfl) (by kernel_rfl) (by kernel_rfl) SY.out _ 41 _ _ rfl gt 0 m.toks.length cv rfl k rfl hlt 4 Tryd.underlying54 (by kernel_rfl) ?_
      simp only [Act.put, List.setIfInBounds_toArray, List.set_cons_zero, List.set_cons_succ]
      refine Tree.t_field (i := 11) rfl rfl (by kernel_rfl) (by kernel_rfl) (by kernel_rfl) SY.out _ _ _ rfl gt (0 + k * 4) rfl Tryd.underlying41 rfl (sz := 1) (by kernel_rfl) (by decide) (k * 4 + 2) (by show 0 + k * 4 + 2 = _; omega) ?_
      simp only [Act.put, List.setIfInBounds_toArray, List.set_cons_zero, List.set_cons_succ]
      obtain ⟨cur, hcur, hcl⟩ : ∃ cur, w9.heap[gt]? = some (.cells cur 41 (0, 0)) ∧ k * 4 + 2 < cur.size := by
        rcases TW9.out.own.2 with ⟨h, h0⟩ | ⟨g, cap, cur, hv, _, hg, hnc, _, hcs, _⟩
        · simp at h
        · simp only [Value.slice.injEq, Option.some.injEq, Addr.mk.injEq, and_true] at hv
          obtain ⟨rfl, _⟩ := hv
          refine ⟨cur, hg, ?_⟩
          rw [hcs]
          omega
      have gtB := (Step.own_lt TW9.out.own (g := gt) rfl)
      have gtw : gt < wr.heap.size := (Step.own_lt HTW.out.own (g := gt) rfl).2
      have gqw : gq < w.heap.size := by
        obtain ⟨gq', oq', hq', _, _, hcq', _⟩ := tok_cells HM.out.t.lv k hlt
        rw [hq] at hq'
        cases hq'
        exact Frame.block_lt hcq'
      refine Step.t_one (i := 12) rfl rfl (by kernel_rfl) (Tree.w_store1 39 _ _ rfl gt (k * 4 + 2) rfl (some ⟨gi, 0, none⟩) (m.toks[k]'hlt).n ci rfl (by kernel_rfl) hcur hcl ?_)
      have gwr : wr.heap.size ≤ gi := hgi
      have tws := TW9.out.store (by omega) hlt (gi := gi) (c := ci) (by omega) (by
        have h := hrow 0 (by omega)
        have h2 : 0 < (Tok.row (m.toks[k]'hlt).n (m.toks[k]'hlt).f 70).length := by simp [Tok.row]
        rw [List.getElem?_eq_getElem h2] at h
        exact Frame.block_lt h) hci hcm hrow
      have gst : w9.grownBy (w9.setCell ⟨gt, k * 4 + 2, none⟩ (.slice (some ⟨gi, 0, none⟩) (m.toks[k]'hlt).n ci)) (some gt) := Tree.grown_setCell (Tree.grown_refl w9) _ _
      have tbs := HTB9.out.step gst (fun b hb => by cases hb; exact gtB.1)
      refine ⟨⟨tbs, (World.cell?_of_block (gst.block _ (Frame.block_lt SY.out.2) (by simp; omega))).trans SY.out.2⟩, ?_⟩
      refine Step.t_end (by kernel_rfl) ?_
      simp only [Act.put]
      go_wp2
      go_roundw
      case rel => exact ⟨k + 1, _, by omega, rfl, tws, tbs⟩
      case measure => simp [intOf]; omega
    · obtain rfl : k = m.toks.length := by omega
      go_upto_region 10 with fail
      refine Step.begin_ (S := fun w' => w'.heap[w.heap.size]? = some (.cells cs 56 (0, 0))) 11 rfl (by kernel_rfl) HTB.out.box ?_
      intro hS
      refine Tree.t_field (i := 0) rfl rfl (by kernel_rfl) (by kernel_rfl) (by kernel_rfl) hS _ _ _ rfl (w.heap.size + 2) 0 rfl Tryd.underlying56 rfl (sz := 1) (by kernel_rfl) (by decide) 26 rfl ?_
      simp only [Act.put, List.setIfInBounds_toArray, List.set_cons_zero, List.set_cons_succ]
      refine Step.t_val (i := 2) rfl rfl (by kernel_rfl) (by kernel_rfl) (by kernel_rfl) hS (.agg #[.int .i64 (-77), .string ⟨#[]⟩, .slice none 0 0, .string ⟨#[]⟩]) (fun w' _ => by unfold execOp; go_simp) ?_
      simp only [Act.put, List.setIfInBounds_toArray, List.set_cons_zero, List.set_cons_succ]
      refine Tree.t_field (i := 5) rfl rfl (by kernel_rfl) (by kernel_rfl) (by kernel_rfl) hS _ _ _ rfl w.heap.size 0 rfl Tryd.underlying56 rfl (sz := 1) (by kernel_rfl) (by decide) 26 rfl ?_
      simp only [Act.put, List.setIfInBounds_toArray, List.set_cons_zero, List.set_cons_succ]
      refine Tree.t_load1 (i := 6) rfl rfl (by kernel_rfl) (by kernel_rfl) (by kernel_rfl) hS _ _ rfl w.heap.size 26 rfl (.slice p.qt m.toks.length p.kt) (fun w' hw' => (cell_of_row w' _ 26 _ _ _ hw').trans x26) Tryd.underlying54 rfl ?_
      simp only [Act.put, List.setIfInBounds_toArray, List.set_cons_zero, List.set_cons_succ]
      refine Step.t_val (i := 7) rfl rfl (by kernel_rfl) (by kernel_rfl) (by kernel_rfl) hS (.int .i64 m.toks.length) (fun w' _ => by unfold execOp; go_simp) ?_
      simp only [Act.put, List.setIfInBounds_toArray, List.set_cons_zero, List.set_cons_succ]
      refine Tree.load_one (i1 := 1) (i5 := 3) 54 41 (size := 4) Tryd.underlying54 (by kernel_rfl) (by kernel_rfl) (by decide) (by decide) 67 69 66 68 (by decide) (by decide) (by decide) (w.heap.size + 2) 26 (.slice qv m.toks.length cv) #[.int .i64 (-77), .string ⟨#[]⟩, .slice none 0 0, .string ⟨#[]⟩] rfl rfl rfl rfl rfl ⟨rfl, rfl⟩ ⟨rfl, rfl⟩ rfl rfl c26
        (by kernel_rfl) (by kernel_rfl) (by kernel_rfl) rfl (by kernel_rfl) hS ((heap_alloc_old wr.drew _ (by show _ < wr.heap.size; exact (Array.getElem?_eq_some_iff.1 hS).1)).trans hS) ?_
      have gwa0 : wr.drew.grownBy (wr.drew.alloc (.cells #[.int .i64 (-77), .string ⟨#[]⟩, .slice none 0 0, .string ⟨#[]⟩] 41)) none := World.grownBy_alloc wr.drew _ none
      have gwa : wr.grownBy (wr.drew.alloc (.cells #[.int .i64 (-77), .string ⟨#[]⟩, .slice none 0 0, .string ⟨#[]⟩] 41)) none := ⟨gwa0.os, gwa0.tape, gwa0.output, gwa0.size, gwa0.block⟩
      clear gwa0
      have hxa := heap_alloc_new wr.drew (.cells #[.int .i64 (-77), .string ⟨#[]⟩, .slice none 0 0, .string ⟨#[]⟩] 41)
      have TWA := Lib.hid (HTW.out.step gwa)
      have TBA := HTB.out.step gwa (by simp)
      have hvb : ∀ b, (Value.slice qv m.toks.length cv).ownBlock = some b → w.heap.size + 3 ≤ b := fun b hb => (Step.own_lt TWA.out.own hb).1
      clear c26 hS
      generalize wr.drew.alloc (.cells #[.int .i64 (-77), .string ⟨#[]⟩, .slice none 0 0, .string ⟨#[]⟩] 41) = wa at *
      have TBA' := Lib.hid TBA
      have HGA := Lib.hid gwa
      clear TBA gwa
      refine Tree.mark_tail0 (i6 := 4) (i10 := 8) (i11 := 9) (i12 := 10) 54 41 (size := 4) (bytes := 64) Tryd.underlying54 a1_toks a2_toks a3_toks a4_toks rfl (by decide) (by kernel_rfl)
        77 67 69 70 74 75 73 3 rfl (by decide) (by decide) (by decide) (.slice qv m.toks.length cv) _ m.toks.length 1 #[.int .i64 (-77), .string ⟨#[]⟩, .slice none 0 0, .string ⟨#[]⟩] (w.heap.size + 2) rfl rfl rfl rfl rfl (by decide) (T.flatMap tokC) (by intro u hu; simp at hu; rcases hu with rfl | rfl | rfl | rfl <;> rfl)
        (by have := (reach_le HM.out.t.reach (by decide) (by decide)).1; omega) (reach_le HM.out.t.reach (by decide) (by decide)).2.1
        rfl rfl rfl rfl ⟨rfl, rfl⟩ ⟨rfl, rfl⟩ ⟨rfl, rfl⟩ ⟨rfl, rfl⟩ rfl rfl 56 10 rfl rfl Tryd.underlying56 rfl (by kernel_rfl) 26 rfl
        (by kernel_rfl) rfl (by kernel_rfl) rfl (by kernel_rfl) rfl (by kernel_rfl) rfl (by kernel_rfl) ?_ TBA'.out.n (by rw [← HCN2.out]; simp [e11]) (fun e => by have := hvb _ e; omega) TWA.out.own hxa TWA.out.sz ?_
      · intro w2 w' hg hw
        have h2 : w2.heap[w.heap.size]? = some (.cells cs 56 (0, 0)) := (hg.block _ (Array.getElem?_eq_some_iff.1 TBA'.out.box).1 (fun e => by have := hvb _ e.symm; omega)).trans TBA'.out.box
        rcases hw with rfl | ⟨x, rfl⟩
        · exact h2
        · exact (heap_setCell_other w2 _ _ _ (by simp)).trans h2
      intro gm cm w2 w3 hown hn3 hg2 hw3 hnc hcm _
      simp only [Act.put, List.setIfInBounds_toArray, List.set_cons_zero, List.set_cons_succ]
      have hr3 : w3.heap[w.heap.size + 1]? = some (.cells metaZ 56 (0, 0)) := by
        rw [hw3, heap_setCell_other w2 _ _ _ (by simp), hg2.block _ (Array.getElem?_eq_some_iff.1 TBA'.out.res).1 (fun e => by have := hvb _ e.symm; omega)]
        exact TBA'.out.res
      have HT := Lib.hid (TW.finish (mT := mT9) HTW.out HGA.out hg2 (z := w.heap.size + 2) (off := 26) (x := .slice (some ⟨gm, 0, none⟩) m.toks.length cm) (by omega) (by rw [hw3] at hown; exact hown) hnc hcm)
      have HG3 := Lib.hid (Tree.grown_trans (Tree.grown_trans HTW.out.gr HGA.out (by simp)) hg2 (fun b hb => by have := hvb b hb; omega))
      have HG3' := Lib.hid (Tree.grown_trans HG3.out (Tree.grown_setCell (Tree.grown_refl w2) ⟨w.heap.size + 2, 26, none⟩ (.slice (some ⟨gm, 0, none⟩) m.toks.length cm)) (fun b hb => by cases hb; show w.heap.size ≤ w.heap.size + 2; omega))
      rw [← hw3] at HG3'
      have HW3 := Lib.hid hw3
      clear hg2 hw3
      have hl : T.length = m.toks.length := HTW.out.len
      obtain ⟨m2, hm2⟩ : ∃ m2 : MetaD, m2 = { m with toks := T } := ⟨_, rfl⟩
      obtain ⟨p3, hp3⟩ : ∃ p3 : Places, p3 = { p2 with qt := some ⟨gm, 0, none⟩, kt := cm } := ⟨_, rfl⟩
      have hcf : cn2.setIfInBounds 26 (.slice (some ⟨gm, 0, none⟩) m.toks.length cm) = metaA m2 p3 := by
        rw [← HCN2.out, ← HCN.out, ← HCS.out, hm2, hp3, ← HP2.out]
        simp only [metaA, hl]
        rfl
      have hf1 : (metaA m2 p3).all (·.oneCell') = true := by rw [← Array.all_toList]; rfl
      have hf27 : (metaA m2 p3).size = 27 := rfl
      rw [← hm2, ← hp3, ← HW3.out] at HT
      rw [hcf] at hn3
      have HMV := Lib.hid (metaV_eq m2 p3)
      generalize metaA m2 p3 = cf at *
      clear hm2 hp3
      go_upto_region 11 with fail
      refine wp_region_lit ?_
      refine Tree.p_loadrow rfl _ _ rfl (w.heap.size + 2) rfl hn3 Tryd.underlying56 rfl (by rw [hf27]; exact hi27) ?_
      simp only [Act.put, List.setIfInBounds_toArray, List.set_cons_zero, List.set_cons_succ]
      refine wpList_store_row rfl _ _ _ rfl (w.heap.size + 1) cf rfl rfl 56 metaZ hr3 (by rw [hf27]; exact hi27) (by rw [hf27]; rfl) hf1 ?_
      refine wpList_nil ?_
      simp only [Act.put]
      have hr4 := setRow_heap w3 (w.heap.size + 1) metaZ cf _ _ hr3
      have g4 : w3.grownBy (w3.setRow (w.heap.size + 1) cf) (some (w.heap.size + 1)) := ⟨rfl, rfl, rfl, by simp, fun k hk hne => setRow_other _ _ _ _ (fun e => hne (by rw [e]))⟩
      have HT4 := Lib.hid ((HT.out.grown g4 (fun b hb => by cases hb; omega)).mono (lo' := w.heap.size) (by omega))
      have HB4 := Lib.hid (below_of_gb (Tree.grown_trans HG3'.out g4 (fun b hb => by cases hb; omega)))
      clear hn3 hr3 g4
      generalize w3.setRow (w.heap.size + 1) cf = w4 at *
      go_wp2
      refine bodyPost_ret (v := .agg cf) (results_cell_row rfl _ _ (w.heap.size + 1) _ cf _ _ rfl hr4 Tryd.underlying56 rfl (by rw [hf27]; exact hi27)) rfl ?_
      exact ⟨m2, p3, by rw [HMV.out], HT4.out, HB4.out⟩
end Go.Proofs.YtfchbodbkdkcfaaDoor.Meta
