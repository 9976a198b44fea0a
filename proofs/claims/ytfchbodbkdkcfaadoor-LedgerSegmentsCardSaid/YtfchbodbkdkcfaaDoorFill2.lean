/- ledger.filled of two segments: Clone, DeleteFunc, Clip. -/
import Derived.Test.YtfchbodbkdkcfaaDoorFill
import Derived.Test.YtfchbodbkdkcfaaDoorTree2
namespace Go.Proofs.YtfchbodbkdkcfaaDoor.Fill
open Go.RowKit Go.Lib Go.Proofs.YtfchbodbkdkcfaaDoor.Coll Go.Proofs.YtfchbodbkdkcfaaDoor.Meta

set_option maxRecDepth 100000 in
set_option maxHeartbeats 4000000 in
theorem clone_any (g cap : Nat) (x y : Sg) (w : World) (h : Two w g x y) :
    Calls Tryd.prog 83 #[.slice (some ⟨g, 0, none⟩) 2 cap] w fun e w' => ∃ g2 c, e = .returned (.slice (some ⟨g2, 0, none⟩) 2 c) ∧ w.heap.size ≤ g2 ∧ 2 ≤ c ∧ c ≤ maxLen ∧ Two w' g2 x y ∧ Below w.heap.size w w' := by
  have H := Lib.hid h
  clear h
  obtain ⟨i0, a1, a2, a3, a4⟩ := info_of (t := 92) (z := .agg #[.int .u64 0, .int .u64 0, .int .u64 0]) (s := 3) (b := 24) (by kernel_rfl)
  have qT : ∀ (w : World) (a : Option Addr) (n c n' c' : Nat), (binOp .eql 49 (.slice a n c) (.slice none n' c')).run Tryd.prog w = .ok (.bool a.isNone) w := fun w a n c n' c' => Lib.run_eql_slice_nil w _ _ a n c n' c' Tryd.underlying49
  go_enter Tryd.func83, Tryd.ntmps83
  go_upto_region 3 with fail
  refine wp_region_lit ?_
  refine Tree.p_empty rfl _ 92 rfl Tryd.underlying49 a1 ?_
  simp only [Act.put, List.setIfInBounds_toArray, List.set_cons_zero, List.set_cons_succ]
  refine Step.p_move rfl _ rfl (.slice (some ⟨g, 0, none⟩) 2 cap) rfl ?_
  simp only [Act.put, List.setIfInBounds_toArray, List.set_cons_zero, List.set_cons_succ]
  have OE : (w.alloc (.cells #[] 92)).ownsRow w.heap.size 92 3 (.slice (some ⟨w.heap.size, 0, none⟩) 0 0) 0 [] := by
    have := World.ownsRow_lit (base := w.heap.size) (e := 92) (size := 3) w #[] 0 (Nat.le_refl _) (Nat.zero_le _) (by simp)
    simpa using this
  have b1 : Below w.heap.size w (w.alloc (.cells #[] 92)) := (Below.refl _ _).alloc (Nat.le_refl _) _
  generalize w.alloc (.cells #[] 92) = w1 at *
  refine App.wpList_append_src w1 rfl _ _ 49 rfl w.heap.size 92 i0 (.agg #[.int .u64 0, .int .u64 0, .int .u64 0]) 3 24 Tryd.underlying49 a1 a2 a3 a4 rfl (by decide) _ 0 [] rfl OE (some ⟨g, 0, none⟩) 2 cap (sgC x ++ sgC y) rfl rfl (fun h => by cases h)
    (fun j u hj => ⟨g, 0, rfl, by
      have hjl : j < 6 := (List.getElem?_eq_some_iff.1 hj).1
      rw [Nat.zero_add, (H.out.below b1).cell j hjl]; exact hj⟩) (by intro u hu; simp [sgC] at hu; rcases hu with rfl | rfl | rfl | rfl | rfl | rfl <;> rfl) (by unfold maxLen; omega) (by omega) b1.size ?_
  intro v w2 ho hg hv
  have b2 : Below w.heap.size w w2 := b1.trans ⟨hg.os, hg.tape, hg.output, hg.size, fun k hk => hg.block k (Nat.lt_of_lt_of_le hk b1.size) (fun e => by have := (Step.own_lt OE e.symm).1; omega)⟩
  obtain ⟨g2, c, cur, rfl, h1, h2, h3, h4, h5, h6⟩ : ∃ g2 c cur, v = .slice (some ⟨g2, 0, none⟩) 2 c ∧ w.heap.size ≤ g2 ∧ w2.heap[g2]? = some (.cells cur 92 (0, 0)) ∧ 2 ≤ c ∧ c ≤ maxLen ∧ cur.size = c * 3 ∧ cur.toList.take 6 = sgC x ++ sgC y := by
    rcases ho.2 with ⟨_, h⟩ | ⟨g2, c, cur, a, b, c', d, e, f, k⟩
    · omega
    · exact ⟨g2, c, cur, a, b, c', by omega, e, f, k⟩
  have T2 := Lib.hid (show Two w2 g2 x y from ⟨cur, h2, by omega, h6⟩)
  clear ho hg hv OE
  simp only [Act.put, List.setIfInBounds_toArray, List.set_cons_zero, List.set_cons_succ]
  refine Step.p_assign rfl _ rfl (.slice (some ⟨g2, 0, none⟩) 2 c) rfl ?_
  refine wpList_nil ?_
  simp only [Act.put, List.setIfInBounds_toArray, List.set_cons_zero, List.set_cons_succ]
  go_wp2
  go_ret
  exact ⟨g2, c, rfl, h1, h3, h4, T2.out, b2⟩

theorem gb_some {w w' : World} {o : Option Nat} (h : Below w.heap.size w w') : w.grownBy w' o := ⟨h.os, h.tape, h.output, h.size, fun k hk _ => h.block k hk⟩
def sgF (x y : Sg) : List Sg := [x, y].filter fun s => s.2.1 != 0

set_option maxRecDepth 100000 in
set_option maxHeartbeats 4000000 in
theorem delete_any (g cap : Nat) (x y : Sg) (w : World) (h : Two w g x y) (hc : 2 ≤ cap) (hm : cap ≤ maxLen) :
    Calls Tryd.prog 82 #[.slice (some ⟨g, 0, none⟩) 2 cap, .func (.func 84) #[] #[]] w fun e w' => e = .returned (.slice (some ⟨g, 0, none⟩) (sgF x y).length cap) ∧ w.grownBy w' (some g) ∧ ∃ cur, w'.heap[g]? = some (.cells cur 92 (0, 0)) ∧ 6 ≤ cur.size ∧ cur.toList.take ((sgF x y).length * 3) = sgL (sgF x y) := by
  have H := Lib.hid h
  have hm' : cap ≤ 9223372036854775807 := hm
  clear h
  obtain ⟨i0, i1, _, _, _⟩ := info_of (t := 92) (z := .agg #[.int .u64 0, .int .u64 0, .int .u64 0]) (s := 3) (b := 24) (by kernel_rfl)
  obtain ⟨x0, x1, x2⟩ := x
  obtain ⟨y0, y1, y2⟩ := y
  obtain ⟨F, hF⟩ : ∃ F, sgF (x0, x1, x2) (y0, y1, y2) = F := ⟨_, rfl⟩
  rw [hF]
  have HF := Lib.hid hF
  clear hF
  go_enter Tryd.func82, Tryd.ntmps82
  go_wp2_with fail
  refine (index_any g cap (x0, x1, x2) (y0, y1, y2) w H.out).mono ?_
  rintro e w1 ⟨rfl, hb1⟩
  have H1 := Lib.hid (H.out.below hb1)
  have HB1 := Lib.hid hb1
  clear hb1
  by_cases hxy : x1 ≠ 0 ∧ y1 ≠ 0
  · have e1 : first (x0, x1, x2) (y0, y1, y2) = -1 := by simp [first, hxy.1, hxy.2]
    have E2 := Lib.hid (show sgF (x0, x1, x2) (y0, y1, y2) = [(x0, x1, x2), (y0, y1, y2)] by simp [sgF, hxy.1, hxy.2])
    rw [e1]
    clear e1
    go_wp2
    go_ret
    obtain ⟨cur, k1, k2, k3⟩ := H1.out
    rw [← HF.out, E2.out]
    exact ⟨rfl, gb_some HB1.out, cur, k1, k2, k3⟩
  · have hstart : (x1 = 0 ∧ first (x0, x1, x2) (y0, y1, y2) = 0) ∨ (x1 ≠ 0 ∧ y1 = 0 ∧ first (x0, x1, x2) (y0, y1, y2) = 1 ∧ sgF (x0, x1, x2) (y0, y1, y2) = [(x0, x1, x2)]) := by
      by_cases hx : x1 = 0
      · exact .inl ⟨hx, by simp [first, hx]⟩
      · have hy : y1 = 0 := by
          by_cases hy : y1 = 0
          · exact hy
          · exact absurd ⟨hx, hy⟩ hxy
        exact .inr ⟨hx, hy, by simp [first, hx, hy], by simp [sgF, hx, hy]⟩
    obtain ⟨r, hr⟩ : ∃ r, first (x0, x1, x2) (y0, y1, y2) = r := ⟨_, rfl⟩
    have HS := Lib.hid hstart
    have HR := Lib.hid hr
    rw [hr]
    have hr2 : r = 0 ∨ r = 1 := by rw [← hr]; rcases hstart with h | h; exact .inl h.2; exact .inr h.2.2.1
    clear hstart hr hxy
    rcases hr2 with rfl | rfl
    all_goals
      go_wp2
      go_loopw [6, 5] (fun j i wr => w.grownBy wr (some g) ∧ ((x1 = 0 ∧ j = .int .i64 1 ∧ i = .int .i64 0 ∧ Two wr g (x0, x1, x2) (y0, y1, y2)) ∨ (∃ n : Nat, n ≤ 1 ∧ F.length = n ∧ j = .int .i64 2 ∧ i = .int .i64 n ∧ ∃ cur, wr.heap[g]? = some (.cells cur 92 (0, 0)) ∧ 6 ≤ cur.size ∧ cur.toList.take (n * 3) = sgL F))) (fun j _ _ => 2 - (intOf j).toNat)
    case atStart =>
      rcases HS.out with ⟨hx, h1⟩ | ⟨hx, hy, h1, h2⟩
      · exact ⟨gb_some HB1.out, .inl ⟨hx, rfl, rfl, H1.out⟩⟩
      · rw [HR.out] at h1; exact absurd h1 (by decide)
    case round =>
      obtain ⟨hg0, hrel⟩ := hrel
      have HG := Lib.hid hg0
      clear hg0
      rcases hrel with ⟨hx, rfl, rfl, htw⟩ | ⟨n, hn1, hFn, rfl, rfl, cur, k1, k2, k3⟩
      · have HT := Lib.hid htw
        have c0 := htw.cell 3 (by omega)
        have c1 := htw.cell 4 (by omega)
        have c2 := htw.cell 5 (by omega)
        simp only [sgC, List.cons_append, List.nil_append, List.getElem?_cons_succ, List.getElem?_cons_zero] at c0 c1 c2
        have hgl := htw.lt
        clear htw
        go_wp2_with fail
        refine (zero_any _ _ _ _).mono ?_
        rintro e w2 ⟨rfl, hb2⟩
        have ga : wr.grownBy w2 none := Tree.grown_trans (World.grownBy_alloc wr _ none) (gb_of_below hb2) (by simp)
        have bx := (hb2.block wr.heap.size (by simp)).trans (heap_alloc_new wr _)
        have HT2 := Lib.hid (HT.out.below (below_of_gb ga))
        have HG2 := Lib.hid (HG.out.trans (gb_some (below_of_gb ga)))
        clear hb2 ga c0 c1 c2
        by_cases h0 : y1 = 0
        · have hv : (y1 == 0) = true := by simp [h0]
          have hF0 : F = [] := by rw [← HF.out]; simp [sgF, hx, h0]
          rw [hv]
          go_wp2
          go_roundw
          case rel =>
            obtain ⟨cur, k1, k2, k3⟩ := HT2.out
            exact ⟨HG2.out, .inr ⟨0, by omega, by rw [hF0]; rfl, rfl, rfl, cur, k1, k2, by rw [hF0]; simp [sgL]⟩⟩
          case measure => simp [intOf]
        · have hv : (y1 == 0) = false := by simp [h0]
          have HF1 : Hid (F = [(y0, y1, y2)]) := Lib.hid (by rw [← HF.out]; simp [sgF, hx, h0])
          rw [hv]
          go_upto_region 9 with fail
          obtain ⟨cur, k1, k2, k3⟩ := HT2.out
          refine wp_region_lit ?_
          refine Step.p_move rfl _ rfl (.slice (some ⟨g, 0, none⟩) 2 cap) rfl ?_
          simp only [Act.put, List.setIfInBounds_toArray, List.set_cons_zero, List.set_cons_succ]
          refine Step.p_move rfl _ rfl (.int .i64 0) rfl ?_
          simp only [Act.put, List.setIfInBounds_toArray, List.set_cons_zero, List.set_cons_succ]
          refine Tree.p_loadrow rfl _ _ rfl wr.heap.size rfl bx Tryd.underlying92 rfl (by kernel_rfl) ?_
          simp only [Act.put, List.setIfInBounds_toArray, List.set_cons_zero, List.set_cons_succ]
          refine Step.p_index rfl _ 92 _ _ rfl g 0 2 cap rfl 0 rfl (by omega) 3 Tryd.underlying49 (by kernel_rfl) ?_
          simp only [Act.put, List.setIfInBounds_toArray, List.set_cons_zero, List.set_cons_succ]
          refine Tree.p_storemid rfl 92 _ _ rfl g (0 + 0 * 3) rfl _ rfl (by kernel_rfl) (by intro u hu; simp at hu; rcases hu with rfl | rfl | rfl <;> rfl) k1 (by simp; omega) ?_
          refine wpList_nil ?_
          simp only [Act.put]
          have nr := setRow_heap w2 g cur (Tree.patch cur (0 + 0 * 3) #[Value.int .u64 y0, .int .u64 y1, .int .u64 y2].toList) _ _ k1
          have ns := Tree.patch_size cur (0 + 0 * 3) #[Value.int .u64 y0, .int .u64 y1, .int .u64 y2].toList (by simp; omega)
          have nt := Tree.patch_take_in cur (0 + 0 * 3) #[Value.int .u64 y0, .int .u64 y1, .int .u64 y2].toList (by simp; omega)
          generalize Tree.patch cur (0 + 0 * 3) #[Value.int .u64 y0, .int .u64 y1, .int .u64 y2].toList = cur2 at *
          have g3 : w2.grownBy (w2.setRow g cur2) (some g) := ⟨rfl, rfl, rfl, by simp, fun k hk hne => setRow_other _ _ _ _ (fun e => hne (by rw [e]))⟩
          have HG3 := Lib.hid (HG2.out.trans g3)
          have HR3 := Lib.hid (show ∃ cur, (w2.setRow g cur2).heap[g]? = some (.cells cur 92 (0, 0)) ∧ 6 ≤ cur.size ∧ cur.toList.take (1 * 3) = sgL F from ⟨cur2, nr, by rw [ns]; exact k2, by rw [HF1.out]; exact nt.trans (by simp [sgL, sgC])⟩)
          clear nr ns nt g3 k1 k3 bx
          generalize w2.setRow g cur2 = w3 at *
          go_wp2
          go_roundw
          case rel => exact ⟨HG3.out, .inr ⟨1, by omega, by rw [HF1.out]; rfl, rfl, rfl, HR3.out⟩⟩
          case measure => simp [intOf]
      · have K3 := Lib.hid k3
        clear k3
        go_upto_region 11 with fail
        refine wp_region_lit ?_
        refine Step.p_move rfl _ rfl (.slice (some ⟨g, 0, none⟩) 2 cap) rfl ?_
        simp only [Act.put, List.setIfInBounds_toArray, List.set_cons_zero, List.set_cons_succ]
        refine Step.p_move rfl _ rfl (.int .i64 n) rfl ?_
        simp only [Act.put, List.setIfInBounds_toArray, List.set_cons_zero, List.set_cons_succ]
        refine Tree.p_cut_lo rfl _ 92 _ _ rfl Tryd.underlying49 (by kernel_rfl) (size := 3) g 0 2 cap n (by omega) (by omega) rfl rfl ?_
        simp only [Act.put, List.setIfInBounds_toArray, List.set_cons_zero, List.set_cons_succ]
        refine Tree.p_clear rfl 49 92 _ rfl (.agg #[.int .u64 0, .int .u64 0, .int .u64 0]) Tryd.underlying49 (by kernel_rfl) (by intro u hu; simp [Value.cells] at hu; subst hu; rfl) (by decide) g (0 + n * 3) (2 - n) (cap - n) rfl k1 (by show 0 + n * 3 + (2 - n) * 3 ≤ cur.size; omega) ?_
        rw [Nat.zero_add]
        intro vs hvs
        have hvs' : n * 3 + vs.length ≤ cur.size := by rw [hvs]; show n * 3 + (2 - n) * 3 ≤ cur.size; omega
        refine wpList_nil ?_
        simp only [Act.put]
        have nr := setRow_heap wr g cur (Tree.patch cur (n * 3) vs) _ _ k1
        have ns := Tree.patch_size cur (n * 3) vs hvs'
        have nt := Tree.patch_take cur (n * 3) vs hvs' (n * 3) (Nat.le_refl _)
        generalize Tree.patch cur (n * 3) vs = cur2 at *
        have g3 : wr.grownBy (wr.setRow g cur2) (some g) := ⟨rfl, rfl, rfl, by simp, fun k hk hne => setRow_other _ _ _ _ (fun e => hne (by rw [e]))⟩
        have HG3 := Lib.hid (HG.out.trans g3)
        have HR3 := Lib.hid (show ∃ cur, (wr.setRow g cur2).heap[g]? = some (.cells cur 92 (0, 0)) ∧ 6 ≤ cur.size ∧ cur.toList.take (F.length * 3) = sgL F from ⟨cur2, nr, by rw [ns]; exact k2, by rw [hFn, nt]; exact K3.out⟩)
        have HFn := Lib.hid hFn
        clear nr ns nt g3 k1 hvs hvs' hFn
        generalize wr.setRow g cur2 = w3 at *
        go_upto_region 12 with fail
        refine wp_region_lit ?_
        refine Step.p_move rfl _ rfl (.slice (some ⟨g, 0, none⟩) 2 cap) rfl ?_
        simp only [Act.put, List.setIfInBounds_toArray, List.set_cons_zero, List.set_cons_succ]
        refine Step.p_move rfl _ rfl (.int .i64 n) rfl ?_
        simp only [Act.put, List.setIfInBounds_toArray, List.set_cons_zero, List.set_cons_succ]
        refine Tree.p_cut rfl _ 92 _ _ rfl Tryd.underlying49 i1 g 2 cap n (by omega) rfl rfl ?_
        simp only [Act.put, List.setIfInBounds_toArray, List.set_cons_zero, List.set_cons_succ]
        refine Step.p_assign rfl _ rfl (.slice (some ⟨g, 0, none⟩) n cap) rfl ?_
        refine wpList_nil ?_
        simp only [Act.put, List.setIfInBounds_toArray, List.set_cons_zero, List.set_cons_succ]
        go_wp2
        go_ret
        exact ⟨by rw [HFn.out]; rfl, HG3.out, HR3.out⟩
    case atStart =>
      rcases HS.out with ⟨hx, h1⟩ | ⟨hx, hy, h1, h2⟩
      · rw [HR.out] at h1; exact absurd h1 (by decide)
      · rw [HF.out] at h2
        obtain ⟨cur, k1, k2, k3⟩ := H1.out
        refine ⟨gb_some HB1.out, .inr ⟨1, by omega, by rw [h2]; rfl, rfl, rfl, cur, k1, k2, ?_⟩⟩
        rw [h2]
        have : cur.toList.take 3 = (cur.toList.take 6).take 3 := by rw [List.take_take]; rfl
        rw [this, k3]
        rfl
    case round =>
      obtain ⟨hg0, hrel⟩ := hrel
      have HG := Lib.hid hg0
      clear hg0
      rcases hrel with ⟨hx, rfl, rfl, htw⟩ | ⟨n, hn1, hFn, rfl, rfl, cur, k1, k2, k3⟩
      · have HT := Lib.hid htw
        have c0 := htw.cell 3 (by omega)
        have c1 := htw.cell 4 (by omega)
        have c2 := htw.cell 5 (by omega)
        simp only [sgC, List.cons_append, List.nil_append, List.getElem?_cons_succ, List.getElem?_cons_zero] at c0 c1 c2
        have hgl := htw.lt
        clear htw
        go_wp2_with fail
        refine (zero_any _ _ _ _).mono ?_
        rintro e w2 ⟨rfl, hb2⟩
        have ga : wr.grownBy w2 none := Tree.grown_trans (World.grownBy_alloc wr _ none) (gb_of_below hb2) (by simp)
        have bx := (hb2.block wr.heap.size (by simp)).trans (heap_alloc_new wr _)
        have HT2 := Lib.hid (HT.out.below (below_of_gb ga))
        have HG2 := Lib.hid (HG.out.trans (gb_some (below_of_gb ga)))
        clear hb2 ga c0 c1 c2
        by_cases h0 : y1 = 0
        · have hv : (y1 == 0) = true := by simp [h0]
          have hF0 : F = [] := by rw [← HF.out]; simp [sgF, hx, h0]
          rw [hv]
          go_wp2
          go_roundw
          case rel =>
            obtain ⟨cur, k1, k2, k3⟩ := HT2.out
            exact ⟨HG2.out, .inr ⟨0, by omega, by rw [hF0]; rfl, rfl, rfl, cur, k1, k2, by rw [hF0]; simp [sgL]⟩⟩
          case measure => simp [intOf]
        · have hv : (y1 == 0) = false := by simp [h0]
          have HF1 : Hid (F = [(y0, y1, y2)]) := Lib.hid (by rw [← HF.out]; simp [sgF, hx, h0])
          rw [hv]
          go_upto_region 9 with fail
          obtain ⟨cur, k1, k2, k3⟩ := HT2.out
          refine wp_region_lit ?_
          refine Step.p_move rfl _ rfl (.slice (some ⟨g, 0, none⟩) 2 cap) rfl ?_
          simp only [Act.put, List.setIfInBounds_toArray, List.set_cons_zero, List.set_cons_succ]
          refine Step.p_move rfl _ rfl (.int .i64 0) rfl ?_
          simp only [Act.put, List.setIfInBounds_toArray, List.set_cons_zero, List.set_cons_succ]
          refine Tree.p_loadrow rfl _ _ rfl wr.heap.size rfl bx Tryd.underlying92 rfl (by kernel_rfl) ?_
          simp only [Act.put, List.setIfInBounds_toArray, List.set_cons_zero, List.set_cons_succ]
          refine Step.p_index rfl _ 92 _ _ rfl g 0 2 cap rfl 0 rfl (by omega) 3 Tryd.underlying49 (by kernel_rfl) ?_
          simp only [Act.put, List.setIfInBounds_toArray, List.set_cons_zero, List.set_cons_succ]
          refine Tree.p_storemid rfl 92 _ _ rfl g (0 + 0 * 3) rfl _ rfl (by kernel_rfl) (by intro u hu; simp at hu; rcases hu with rfl | rfl | rfl <;> rfl) k1 (by simp; omega) ?_
          refine wpList_nil ?_
          simp only [Act.put]
          have nr := setRow_heap w2 g cur (Tree.patch cur (0 + 0 * 3) #[Value.int .u64 y0, .int .u64 y1, .int .u64 y2].toList) _ _ k1
          have ns := Tree.patch_size cur (0 + 0 * 3) #[Value.int .u64 y0, .int .u64 y1, .int .u64 y2].toList (by simp; omega)
          have nt := Tree.patch_take_in cur (0 + 0 * 3) #[Value.int .u64 y0, .int .u64 y1, .int .u64 y2].toList (by simp; omega)
          generalize Tree.patch cur (0 + 0 * 3) #[Value.int .u64 y0, .int .u64 y1, .int .u64 y2].toList = cur2 at *
          have g3 : w2.grownBy (w2.setRow g cur2) (some g) := ⟨rfl, rfl, rfl, by simp, fun k hk hne => setRow_other _ _ _ _ (fun e => hne (by rw [e]))⟩
          have HG3 := Lib.hid (HG2.out.trans g3)
          have HR3 := Lib.hid (show ∃ cur, (w2.setRow g cur2).heap[g]? = some (.cells cur 92 (0, 0)) ∧ 6 ≤ cur.size ∧ cur.toList.take (1 * 3) = sgL F from ⟨cur2, nr, by rw [ns]; exact k2, by rw [HF1.out]; exact nt.trans (by simp [sgL, sgC])⟩)
          clear nr ns nt g3 k1 k3 bx
          generalize w2.setRow g cur2 = w3 at *
          go_wp2
          go_roundw
          case rel => exact ⟨HG3.out, .inr ⟨1, by omega, by rw [HF1.out]; rfl, rfl, rfl, HR3.out⟩⟩
          case measure => simp [intOf]
      · have K3 := Lib.hid k3
        clear k3
        go_upto_region 11 with fail
        refine wp_region_lit ?_
        refine Step.p_move rfl _ rfl (.slice (some ⟨g, 0, none⟩) 2 cap) rfl ?_
        simp only [Act.put, List.setIfInBounds_toArray, List.set_cons_zero, List.set_cons_succ]
        refine Step.p_move rfl _ rfl (.int .i64 n) rfl ?_
        simp only [Act.put, List.setIfInBounds_toArray, List.set_cons_zero, List.set_cons_succ]
        refine Tree.p_cut_lo rfl _ 92 _ _ rfl Tryd.underlying49 (by kernel_rfl) (size := 3) g 0 2 cap n (by omega) (by omega) rfl rfl ?_
        simp only [Act.put, List.setIfInBounds_toArray, List.set_cons_zero, List.set_cons_succ]
        refine Tree.p_clear rfl 49 92 _ rfl (.agg #[.int .u64 0, .int .u64 0, .int .u64 0]) Tryd.underlying49 (by kernel_rfl) (by intro u hu; simp [Value.cells] at hu; subst hu; rfl) (by decide) g (0 + n * 3) (2 - n) (cap - n) rfl k1 (by show 0 + n * 3 + (2 - n) * 3 ≤ cur.size; omega) ?_
        rw [Nat.zero_add]
        intro vs hvs
        have hvs' : n * 3 + vs.length ≤ cur.size := by rw [hvs]; show n * 3 + (2 - n) * 3 ≤ cur.size; omega
        refine wpList_nil ?_
        simp only [Act.put]
        have nr := setRow_heap wr g cur (Tree.patch cur (n * 3) vs) _ _ k1
        have ns := Tree.patch_size cur (n * 3) vs hvs'
        have nt := Tree.patch_take cur (n * 3) vs hvs' (n * 3) (Nat.le_refl _)
        generalize Tree.patch cur (n * 3) vs = cur2 at *
        have g3 : wr.grownBy (wr.setRow g cur2) (some g) := ⟨rfl, rfl, rfl, by simp, fun k hk hne => setRow_other _ _ _ _ (fun e => hne (by rw [e]))⟩
        have HG3 := Lib.hid (HG.out.trans g3)
        have HR3 := Lib.hid (show ∃ cur, (wr.setRow g cur2).heap[g]? = some (.cells cur 92 (0, 0)) ∧ 6 ≤ cur.size ∧ cur.toList.take (F.length * 3) = sgL F from ⟨cur2, nr, by rw [ns]; exact k2, by rw [hFn, nt]; exact K3.out⟩)
        have HFn := Lib.hid hFn
        clear nr ns nt g3 k1 hvs hvs' hFn
        generalize wr.setRow g cur2 = w3 at *
        go_upto_region 12 with fail
        refine wp_region_lit ?_
        refine Step.p_move rfl _ rfl (.slice (some ⟨g, 0, none⟩) 2 cap) rfl ?_
        simp only [Act.put, List.setIfInBounds_toArray, List.set_cons_zero, List.set_cons_succ]
        refine Step.p_move rfl _ rfl (.int .i64 n) rfl ?_
        simp only [Act.put, List.setIfInBounds_toArray, List.set_cons_zero, List.set_cons_succ]
        refine Tree.p_cut rfl _ 92 _ _ rfl Tryd.underlying49 i1 g 2 cap n (by omega) rfl rfl ?_
        simp only [Act.put, List.setIfInBounds_toArray, List.set_cons_zero, List.set_cons_succ]
        refine Step.p_assign rfl _ rfl (.slice (some ⟨g, 0, none⟩) n cap) rfl ?_
        refine wpList_nil ?_
        simp only [Act.put, List.setIfInBounds_toArray, List.set_cons_zero, List.set_cons_succ]
        go_wp2
        go_ret
        exact ⟨by rw [HFn.out]; rfl, HG3.out, HR3.out⟩
end Go.Proofs.YtfchbodbkdkcfaaDoor.Fill
