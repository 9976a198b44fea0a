/- cofferlaw09.spoil of metadata that hold segments alone: it writes their own block, and new ones. -/
import Derived.Test.YtfchbodbkdkcfaaDoorFill3
import Derived.Test.YtfchbodbkdkcfaaDoorApp2
namespace Go.Proofs.YtfchbodbkdkcfaaDoor.Fill
open Go.RowKit Go.Lib Go.Proofs.YtfchbodbkdkcfaaDoor.Coll Go.Proofs.YtfchbodbkdkcfaaDoor.Meta Go.Proofs.YtfchbodbkdkcfaaDoor.App

theorem FO.slice {w : World} {B : Nat} {e : TypeId} {size : Nat} {v : Value} {n : Nat} (h : FO w B e size v n) : ∃ q c, v = .slice q n c := by
  rcases h with ⟨xs, h⟩ | ⟨g, cur, rfl, _⟩
  · rcases h.2 with ⟨rfl, rfl⟩ | ⟨g, cap, cur, rfl, _⟩
    · exact ⟨_, _, rfl⟩
    · exact ⟨_, _, rfl⟩
  · exact ⟨_, _, rfl⟩
def metaG (v : Value) : Array Value := metaZ.setIfInBounds 13 v
theorem gb_tr {a b c : World} {r : Option Nat} (h : a.grownBy b r) (k : b.grownBy c none) : a.grownBy c r := h.trans ⟨k.os, k.tape, k.output, k.size, fun i hi _ => k.block i hi (by simp)⟩

set_option maxRecDepth 100000 in
set_option maxHeartbeats 8000000 in
theorem spoil9_any (v : Value) (n : Nat) (w : World) (hn : n ≤ 2) (hv : (v = .slice none 0 0 ∧ n = 0) ∨ ∃ g cur, v = .slice (some ⟨g, 0, none⟩) n n ∧ w.heap[g]? = some (.cells cur 92 (0, 0)) ∧ n * 3 ≤ cur.size) :
    Calls Tryd.prog 29 #[.agg (metaG v)] w fun e w' => (∃ x, e = .returned x) ∧ w.grownBy w' v.ownBlock := by
  have HV := Lib.hid hv
  have hvl : ∃ q c, v = .slice q n c := by
    rcases hv with ⟨rfl, rfl⟩ | ⟨g, cur, rfl, _⟩
    · exact ⟨_, _, rfl⟩
    · exact ⟨_, _, rfl⟩
  clear hv
  obtain ⟨i_s, a1_s, a2_s, a3_s, a4_s⟩ := info_of (t := 90) (z := .agg #[.int .i64 0, .int .i64 0, .int .i64 0, .int .i64 0, .string ⟨#[]⟩, .string ⟨#[]⟩, .int .i64 0, .int .i64 0, .int .i64 0]) (s := 9) (b := 88) (by kernel_rfl)
  obtain ⟨i_e, a1_e, a2_e, a3_e, a4_e⟩ := info_of (t := 64) (z := .agg #[.int .u64 0, .string ⟨#[]⟩, .string ⟨#[]⟩, .string ⟨#[]⟩, .string ⟨#[]⟩]) (s := 5) (b := 72) (by kernel_rfl)
  obtain ⟨i_g, a1_g, a2_g, a3_g, a4_g⟩ := info_of (t := 92) (z := .agg #[.int .u64 0, .int .u64 0, .int .u64 0]) (s := 3) (b := 24) (by kernel_rfl)
  obtain ⟨i_t, a1_t, a2_t, a3_t, a4_t⟩ := info_of (t := 41) (z := .agg #[.int .i64 0, .string ⟨#[]⟩, .slice none 0 0, .string ⟨#[]⟩]) (s := 4) (b := 64) (by kernel_rfl)
  obtain ⟨q, cp, hq⟩ := hvl
  have c11 : (metaG v)[11]? = some (.slice none 0 0) := rfl
  have c12 : (metaG v)[12]? = some (.slice none 0 0) := rfl
  have c13 : (metaG v)[13]? = some (.slice q n cp) := by rw [← hq]; rfl
  have c26 : (metaG v)[26]? = some (.slice none 0 0) := rfl
  generalize metaG v = cs at *
  go_enter Tryd.func29, Tryd.ntmps29
  go_upto_region 1 with fail
  have o1 := heap_alloc_new w (.cells cs 56)
  have g1 : w.grownBy (w.alloc (.cells cs 56)) none := World.grownBy_alloc w _ none
  have HV1 : Hid ((v = .slice none 0 0 ∧ n = 0) ∨ ∃ g cur, g < w.heap.size ∧ v = .slice (some ⟨g, 0, none⟩) n n ∧ (w.alloc (.cells cs 56)).heap[g]? = some (.cells cur 92 (0, 0)) ∧ n * 3 ≤ cur.size) := Lib.hid (by
    rcases HV.out with h | ⟨g, cur, h1, h2, h3⟩
    · exact .inl h
    · exact .inr ⟨g, cur, (Array.getElem?_eq_some_iff.1 h2).1, h1, (heap_alloc_old w _ (Array.getElem?_eq_some_iff.1 h2).1).trans h2, h3⟩)
  generalize w.alloc (.cells cs 56) = w1 at *
  have hl := (Array.getElem?_eq_some_iff.1 o1).1
  have C11 := Lib.hid c11
  have C12 := Lib.hid c12
  have C13 := Lib.hid c13
  have C26 := Lib.hid c26
  have x11 := (cell_of_row _ _ 11 _ _ _ o1).trans c11
  have x12 := (cell_of_row _ _ 12 _ _ _ o1).trans c12
  have x26 := (cell_of_row _ _ 26 _ _ _ o1).trans c26
  have O1 := Lib.hid o1
  have G1 := Lib.hid g1
  have HQ := Lib.hid hq
  clear c11 c12 c13 c26 o1 g1 HV hq
  go_wp2
  go_loopw [2] (fun i wr => i = .int .i64 0 ∧ w1 = wr) (fun _ _ => 0)
  case atStart => exact ⟨rfl, rfl⟩
  case round =>
  obtain ⟨rfl, rfl⟩ := hrel
  go_wp2
  go_loopw [3] (fun i wr => i = .int .i64 0 ∧ w1 = wr) (fun _ _ => 0)
  case atStart => exact ⟨rfl, rfl⟩
  case round =>
  obtain ⟨rfl, rfl⟩ := hrel
  go_wp2
  go_loopw [4] (fun i wr => i = .int .i64 0 ∧ w1 = wr) (fun _ _ => 0)
  case atStart => exact ⟨rfl, rfl⟩
  case round =>
  obtain ⟨rfl, rfl⟩ := hrel
  go_wp2
  go_loopw [5] (fun i wr => ∃ k : Nat, k ≤ n ∧ i = .int .i64 k ∧ w.grownBy wr v.ownBlock ∧ wr.heap[w.heap.size]? = some (.cells cs 56 (0, 0)) ∧ ((v = .slice none 0 0 ∧ n = 0) ∨ ∃ g cur, g < w.heap.size ∧ v = .slice (some ⟨g, 0, none⟩) n n ∧ wr.heap[g]? = some (.cells cur 92 (0, 0)) ∧ n * 3 ≤ cur.size)) (fun i _ => n - (intOf i).toNat)
  case atStart => exact ⟨0, by omega, rfl, ⟨G1.out.os, G1.out.tape, G1.out.output, G1.out.size, fun k hk _ => G1.out.block k hk (by simp)⟩, O1.out, HV1.out⟩
  case round =>
  obtain ⟨k, hk, rfl, hg, ho, hcase⟩ := hrel
  have HG := Lib.hid hg
  have HO := Lib.hid ho
  have hl' := (Array.getElem?_eq_some_iff.1 ho).1
  clear hg
  by_cases hlt : k < n
  · rcases hcase with ⟨_, h0⟩ | ⟨g, cur, hgl, hvg, hc, hcn⟩
    · omega
    · have x13 := (cell_of_row _ _ 13 _ _ _ ho).trans C13.out
      have hqv := hvg.symm.trans HQ.out
      simp only [Value.slice.injEq, true_and] at hqv
      obtain ⟨rfl, rfl⟩ := hqv
      have HVG := Lib.hid hvg
      clear ho x11 x12 x26 hvg
      go_upto_region 17 with fail
      refine wp_region_lit ?_
      refine Tree.p_field rfl _ _ _ rfl w.heap.size 0 rfl Tryd.underlying56 rfl (sz := 1) (by kernel_rfl) (by decide) 13 rfl ?_
      simp only [Act.put, List.setIfInBounds_toArray, List.set_cons_zero, List.set_cons_succ]
      refine Tree.p_load1 rfl _ _ rfl w.heap.size 13 rfl (.slice (some ⟨g, 0, none⟩) n n) x13 Tryd.underlying49 rfl ?_
      simp only [Act.put, List.setIfInBounds_toArray, List.set_cons_zero, List.set_cons_succ]
      refine Step.p_move rfl _ rfl (.int .i64 k) rfl ?_
      simp only [Act.put, List.setIfInBounds_toArray, List.set_cons_zero, List.set_cons_succ]
      refine Step.p_val rfl (.agg #[.int .u64 99, .int .u64 0, .int .u64 0]) (by unfold execOp; go_simp) ?_
      simp only [Act.put, List.setIfInBounds_toArray, List.set_cons_zero, List.set_cons_succ]
      refine Step.p_index rfl _ 92 _ _ rfl g 0 n n rfl k rfl hlt 3 Tryd.underlying49 (by kernel_rfl) ?_
      simp only [Act.put, List.setIfInBounds_toArray, List.set_cons_zero, List.set_cons_succ]
      refine Tree.p_storemid rfl 92 _ _ rfl g (0 + k * 3) rfl _ rfl (by kernel_rfl) (by intro u hu; simp at hu; rcases hu with rfl | rfl | rfl <;> rfl) hc (by show 0 + k * 3 + 3 ≤ cur.size; omega) ?_
      refine wpList_nil ?_
      simp only [Act.put]
      have nr := setRow_heap wr g cur (Tree.patch cur (0 + k * 3) #[Value.int .u64 99, .int .u64 0, .int .u64 0].toList) _ _ hc
      have ns := Tree.patch_size cur (0 + k * 3) #[Value.int .u64 99, .int .u64 0, .int .u64 0].toList (by show 0 + k * 3 + 3 ≤ cur.size; omega)
      generalize Tree.patch cur (0 + k * 3) #[Value.int .u64 99, .int .u64 0, .int .u64 0].toList = cur2 at *
      have g3 : wr.grownBy (wr.setRow g cur2) (some g) := ⟨rfl, rfl, rfl, by simp, fun k hk hne => setRow_other _ _ _ _ (fun e => hne (by rw [e]))⟩
      have ho3 := (g3.block w.heap.size hl' (by simp; omega)).trans HO.out
      have HR := Lib.hid (show w.grownBy (wr.setRow g cur2) v.ownBlock ∧ (wr.setRow g cur2).heap[w.heap.size]? = some (.cells cs 56 (0, 0)) ∧ ((v = .slice none 0 0 ∧ n = 0) ∨ ∃ g' cur, g' < w.heap.size ∧ v = .slice (some ⟨g', 0, none⟩) n n ∧ (wr.setRow g cur2).heap[g']? = some (.cells cur 92 (0, 0)) ∧ n * 3 ≤ cur.size) from
        ⟨by have := HG.out; rw [HVG.out] at this ⊢; exact this.trans g3, ho3, .inr ⟨g, cur2, hgl, HVG.out, nr, by rw [ns]; exact hcn⟩⟩)
      clear nr ns g3 ho3 hc x13
      generalize wr.setRow g cur2 = w3 at *
      go_wp2
      go_roundw
      case rel => exact ⟨k + 1, by omega, rfl, HR.out⟩
      case measure => simp [intOf]; omega
  · obtain ⟨W0, rfl⟩ : ∃ W0, W0 = wr := ⟨_, rfl⟩
    have x13 := (cell_of_row _ _ 13 _ _ _ ho).trans C13.out
    have y11 := (cell_of_row _ _ 11 _ _ _ ho).trans C11.out
    have y12 := (cell_of_row _ _ 12 _ _ _ ho).trans C12.out
    have y26 := (cell_of_row _ _ 26 _ _ _ ho).trans C26.out
    have hsl : n ≤ 9223372036854775807 := by omega
    have HF : Hid (FO W0 W0.heap.size 92 3 (.slice q n cp) n) := Lib.hid (by
      rw [← HQ.out]
      rcases hcase with ⟨rfl, rfl⟩ | ⟨g, cur, hgl, rfl, hc, hcn⟩
      · exact .inl ⟨_, World.ownsRow_nil _ _ _ _⟩
      · exact .inr ⟨g, cur, rfl, (Array.getElem?_eq_some_iff.1 hc).1, hc, hcn⟩)
    clear ho hcase x11 x12 x26
    go_wp2
    go_loopw [10, 6, 7, 8, 9] (fun i vs ve vg vt wx => ∃ k : Nat, k ≤ 9 ∧ i = .int .i64 k ∧ W0.grownBy wx none ∧ FO wx W0.heap.size 90 9 vs k ∧ FO wx W0.heap.size 64 5 ve k ∧ FO wx W0.heap.size 92 3 vg (n + k) ∧ FO wx W0.heap.size 41 4 vt k ∧ (0 < k → ∃ xs, wx.ownsRow W0.heap.size 90 9 vs k xs)) (fun i _ _ _ _ _ => 9 - (intOf i).toNat)
    case atStart => exact ⟨0, by omega, rfl, Tree.grown_refl W0, .inl ⟨_, World.ownsRow_nil _ _ _ _⟩, .inl ⟨_, World.ownsRow_nil _ _ _ _⟩, HF.out, .inl ⟨_, World.ownsRow_nil _ _ _ _⟩, fun h => by omega⟩
    case round =>
    obtain ⟨k, hk, rfl, hg5, fs, fe, fg, ft, fo⟩ := hrel
    have FOW := Lib.hid fo
    have HG5 := Lib.hid hg5
    have FS := Lib.hid fs
    have FE := Lib.hid fe
    have FG := Lib.hid fg
    have FT := Lib.hid ft
    clear hg5 fs fe fg ft fo x13 y11 y12 y26
    by_cases h9 : k < 9
    · go_upto_region 25 with fail
      refine wp_region_lit ?_
      refine Step.p_move rfl _ rfl u6 rfl ?_
      simp only [Act.put, List.setIfInBounds_toArray, List.set_cons_zero, List.set_cons_succ]
      refine Step.p_val rfl (.agg #[Value.int .i64 0, .int .i64 0, .int .i64 0, .int .i64 0, .string ⟨#[98, 101, 104, 105, 110, 100]⟩, .string ⟨#[]⟩, .int .i64 0, .int .i64 0, .int .i64 0]) (by unfold execOp; go_simp) ?_
      simp only [Act.put, List.setIfInBounds_toArray, List.set_cons_zero, List.set_cons_succ]
      refine Tree.p_one rfl 47 90 (.tmp 79) rfl #[Value.int .i64 0, .int .i64 0, .int .i64 0, .int .i64 0, .string ⟨#[98, 101, 104, 105, 110, 100]⟩, .string ⟨#[]⟩, .int .i64 0, .int .i64 0, .int .i64 0] (n := 9) rfl rfl Tryd.underlying47 (by kernel_rfl) (by kernel_rfl) (by decide) (by decide) ?_
      simp only [Act.put, List.setIfInBounds_toArray, List.set_cons_zero, List.set_cons_succ]
      refine App.p_append_fo rfl _ _ 47 rfl W0.heap.size 90 i_s (.agg #[.int .i64 0, .int .i64 0, .int .i64 0, .int .i64 0, .string ⟨#[]⟩, .string ⟨#[]⟩, .int .i64 0, .int .i64 0, .int .i64 0]) 9 88 Tryd.underlying47 a1_s a2_s a3_s a4_s rfl (by decide) u6 k rfl (FS.out.alloc _) wr.heap.size 1 rfl #[Value.int .i64 0, .int .i64 0, .int .i64 0, .int .i64 0, .string ⟨#[98, 101, 104, 105, 110, 100]⟩, .string ⟨#[]⟩, .int .i64 0, .int .i64 0, .int .i64 0] rfl (heap_alloc_new wr _) (by intro u hu; simp at hu; rcases hu with rfl | rfl | rfl | rfl | rfl | rfl | rfl | rfl | rfl <;> rfl) (by unfold maxLen; omega) (by omega) (Nat.le_trans HG5.out.size (World.grownBy_alloc wr _ none).size) ?_
      intro vs2 wy0 hown haway0
      have haway := App.Away.alloc _ haway0
      have HG5' := Lib.hid (App.Away.grown HG5.out (Nat.le_refl _) haway)
      clear HG5
      have HG5 := HG5'
      clear HG5'
      have FE' := Lib.hid (FE.out.away haway (by decide))
      clear FE
      have FE := FE'
      clear FE'
      have FG' := Lib.hid (FG.out.away haway (by decide))
      clear FG
      have FG := FG'
      clear FG'
      have FT' := Lib.hid (FT.out.away haway (by decide))
      clear FT
      have FT := FT'
      clear FT'
      have OS := Lib.hid hown
      clear FS
      have FS : Hid (App.FO wy0 W0.heap.size 90 9 vs2 (k + 1)) := Lib.hid (.inl hown)
      clear hown haway0 haway
      simp only [Act.put, List.setIfInBounds_toArray, List.set_cons_zero, List.set_cons_succ]
      refine Step.p_assign rfl _ rfl vs2 rfl ?_
      refine wpList_nil ?_
      simp only [Act.put, List.setIfInBounds_toArray, List.set_cons_zero, List.set_cons_succ]
      go_upto_region 26 with fail
      refine wp_region_lit ?_
      refine Step.p_move rfl _ rfl u7 rfl ?_
      simp only [Act.put, List.setIfInBounds_toArray, List.set_cons_zero, List.set_cons_succ]
      refine Step.p_val rfl (.agg #[Value.int .u64 0, .string ⟨#[]⟩, .string ⟨#[98, 101, 104, 105, 110, 100]⟩, .string ⟨#[]⟩, .string ⟨#[]⟩]) (by unfold execOp; go_simp) ?_
      simp only [Act.put, List.setIfInBounds_toArray, List.set_cons_zero, List.set_cons_succ]
      refine Tree.p_one rfl 48 64 (.tmp 83) rfl #[Value.int .u64 0, .string ⟨#[]⟩, .string ⟨#[98, 101, 104, 105, 110, 100]⟩, .string ⟨#[]⟩, .string ⟨#[]⟩] (n := 5) rfl rfl Tryd.underlying48 (by kernel_rfl) (by kernel_rfl) (by decide) (by decide) ?_
      simp only [Act.put, List.setIfInBounds_toArray, List.set_cons_zero, List.set_cons_succ]
      refine App.p_append_fo rfl _ _ 48 rfl W0.heap.size 64 i_e (.agg #[.int .u64 0, .string ⟨#[]⟩, .string ⟨#[]⟩, .string ⟨#[]⟩, .string ⟨#[]⟩]) 5 72 Tryd.underlying48 a1_e a2_e a3_e a4_e rfl (by decide) u7 k rfl (FE.out.alloc _) wy0.heap.size 1 rfl #[Value.int .u64 0, .string ⟨#[]⟩, .string ⟨#[98, 101, 104, 105, 110, 100]⟩, .string ⟨#[]⟩, .string ⟨#[]⟩] rfl (heap_alloc_new wy0 _) (by intro u hu; simp at hu; rcases hu with rfl | rfl | rfl | rfl | rfl <;> rfl) (by unfold maxLen; omega) (by omega) (Nat.le_trans HG5.out.size (World.grownBy_alloc wy0 _ none).size) ?_
      intro ve2 wy1 hown haway0
      have haway := App.Away.alloc _ haway0
      have HG5' := Lib.hid (App.Away.grown HG5.out (Nat.le_refl _) haway)
      clear HG5
      have HG5 := HG5'
      clear HG5'
      have FS' := Lib.hid (FS.out.away haway (by decide))
      clear FS
      have FS := FS'
      clear FS'
      have FG' := Lib.hid (FG.out.away haway (by decide))
      clear FG
      have FG := FG'
      clear FG'
      have FT' := Lib.hid (FT.out.away haway (by decide))
      clear FT
      have FT := FT'
      clear FT'
      have OS' : Hid (∃ xs, wy1.ownsRow W0.heap.size 90 9 vs2 (k + 1) xs) := Lib.hid (by
        obtain ⟨xs, h⟩ := OS.out
        obtain ⟨ob, hg, hb⟩ := haway
        refine ⟨xs, App.own_kept h hg fun b e' cur fz hc => ?_⟩
        obtain ⟨_, cur', fz', h2⟩ := hb b e'
        rw [hc] at h2
        cases h2)
      clear OS
      have OS := OS'
      clear OS'
      clear FE
      have FE : Hid (App.FO wy1 W0.heap.size 64 5 ve2 (k + 1)) := Lib.hid (.inl hown)
      clear hown haway0 haway
      simp only [Act.put, List.setIfInBounds_toArray, List.set_cons_zero, List.set_cons_succ]
      refine Step.p_assign rfl _ rfl ve2 rfl ?_
      refine wpList_nil ?_
      simp only [Act.put, List.setIfInBounds_toArray, List.set_cons_zero, List.set_cons_succ]
      go_upto_region 27 with fail
      refine wp_region_lit ?_
      refine Step.p_move rfl _ rfl u8 rfl ?_
      simp only [Act.put, List.setIfInBounds_toArray, List.set_cons_zero, List.set_cons_succ]
      refine Step.p_val rfl (.agg #[Value.int .u64 0, .int .u64 98, .int .u64 0]) (by unfold execOp; go_simp) ?_
      simp only [Act.put, List.setIfInBounds_toArray, List.set_cons_zero, List.set_cons_succ]
      refine Tree.p_one rfl 49 92 (.tmp 87) rfl #[Value.int .u64 0, .int .u64 98, .int .u64 0] (n := 3) rfl rfl Tryd.underlying49 (by kernel_rfl) (by kernel_rfl) (by decide) (by decide) ?_
      simp only [Act.put, List.setIfInBounds_toArray, List.set_cons_zero, List.set_cons_succ]
      refine App.p_append_fo rfl _ _ 49 rfl W0.heap.size 92 i_g (.agg #[.int .u64 0, .int .u64 0, .int .u64 0]) 3 24 Tryd.underlying49 a1_g a2_g a3_g a4_g rfl (by decide) u8 (n + k) rfl (FG.out.alloc _) wy1.heap.size 1 rfl #[Value.int .u64 0, .int .u64 98, .int .u64 0] rfl (heap_alloc_new wy1 _) (by intro u hu; simp at hu; rcases hu with rfl | rfl | rfl <;> rfl) (by unfold maxLen; omega) (by omega) (Nat.le_trans HG5.out.size (World.grownBy_alloc wy1 _ none).size) ?_
      intro vg2 wy2 hown haway0
      have haway := App.Away.alloc _ haway0
      have HG5' := Lib.hid (App.Away.grown HG5.out (Nat.le_refl _) haway)
      clear HG5
      have HG5 := HG5'
      clear HG5'
      have FS' := Lib.hid (FS.out.away haway (by decide))
      clear FS
      have FS := FS'
      clear FS'
      have FE' := Lib.hid (FE.out.away haway (by decide))
      clear FE
      have FE := FE'
      clear FE'
      have FT' := Lib.hid (FT.out.away haway (by decide))
      clear FT
      have FT := FT'
      clear FT'
      have OS' : Hid (∃ xs, wy2.ownsRow W0.heap.size 90 9 vs2 (k + 1) xs) := Lib.hid (by
        obtain ⟨xs, h⟩ := OS.out
        obtain ⟨ob, hg, hb⟩ := haway
        refine ⟨xs, App.own_kept h hg fun b e' cur fz hc => ?_⟩
        obtain ⟨_, cur', fz', h2⟩ := hb b e'
        rw [hc] at h2
        cases h2)
      clear OS
      have OS := OS'
      clear OS'
      clear FG
      have FG : Hid (App.FO wy2 W0.heap.size 92 3 vg2 ((n + k) + 1)) := Lib.hid (.inl hown)
      clear hown haway0 haway
      simp only [Act.put, List.setIfInBounds_toArray, List.set_cons_zero, List.set_cons_succ]
      refine Step.p_assign rfl _ rfl vg2 rfl ?_
      refine wpList_nil ?_
      simp only [Act.put, List.setIfInBounds_toArray, List.set_cons_zero, List.set_cons_succ]
      go_upto_region 28 with fail
      refine wp_region_lit ?_
      refine Step.p_move rfl _ rfl u9 rfl ?_
      simp only [Act.put, List.setIfInBounds_toArray, List.set_cons_zero, List.set_cons_succ]
      refine Step.p_val rfl (.agg #[Value.int .i64 0, .string ⟨#[98, 101, 104, 105, 110, 100]⟩, .slice none 0 0, .string ⟨#[]⟩]) (by unfold execOp; go_simp) ?_
      simp only [Act.put, List.setIfInBounds_toArray, List.set_cons_zero, List.set_cons_succ]
      refine Tree.p_one rfl 54 41 (.tmp 91) rfl #[Value.int .i64 0, .string ⟨#[98, 101, 104, 105, 110, 100]⟩, .slice none 0 0, .string ⟨#[]⟩] (n := 4) rfl rfl Tryd.underlying54 (by kernel_rfl) (by kernel_rfl) (by decide) (by decide) ?_
      simp only [Act.put, List.setIfInBounds_toArray, List.set_cons_zero, List.set_cons_succ]
      refine App.p_append_fo rfl _ _ 54 rfl W0.heap.size 41 i_t (.agg #[.int .i64 0, .string ⟨#[]⟩, .slice none 0 0, .string ⟨#[]⟩]) 4 64 Tryd.underlying54 a1_t a2_t a3_t a4_t rfl (by decide) u9 k rfl (FT.out.alloc _) wy2.heap.size 1 rfl #[Value.int .i64 0, .string ⟨#[98, 101, 104, 105, 110, 100]⟩, .slice none 0 0, .string ⟨#[]⟩] rfl (heap_alloc_new wy2 _) (by intro u hu; simp at hu; rcases hu with rfl | rfl | rfl | rfl <;> rfl) (by unfold maxLen; omega) (by omega) (Nat.le_trans HG5.out.size (World.grownBy_alloc wy2 _ none).size) ?_
      intro vt2 wy3 hown haway0
      have haway := App.Away.alloc _ haway0
      have HG5' := Lib.hid (App.Away.grown HG5.out (Nat.le_refl _) haway)
      clear HG5
      have HG5 := HG5'
      clear HG5'
      have FS' := Lib.hid (FS.out.away haway (by decide))
      clear FS
      have FS := FS'
      clear FS'
      have FE' := Lib.hid (FE.out.away haway (by decide))
      clear FE
      have FE := FE'
      clear FE'
      have FG' := Lib.hid (FG.out.away haway (by decide))
      clear FG
      have FG := FG'
      clear FG'
      have OS' : Hid (∃ xs, wy3.ownsRow W0.heap.size 90 9 vs2 (k + 1) xs) := Lib.hid (by
        obtain ⟨xs, h⟩ := OS.out
        obtain ⟨ob, hg, hb⟩ := haway
        refine ⟨xs, App.own_kept h hg fun b e' cur fz hc => ?_⟩
        obtain ⟨_, cur', fz', h2⟩ := hb b e'
        rw [hc] at h2
        cases h2)
      clear OS
      have OS := OS'
      clear OS'
      clear FT
      have FT : Hid (App.FO wy3 W0.heap.size 41 4 vt2 (k + 1)) := Lib.hid (.inl hown)
      clear hown haway0 haway
      simp only [Act.put, List.setIfInBounds_toArray, List.set_cons_zero, List.set_cons_succ]
      refine Step.p_assign rfl _ rfl vt2 rfl ?_
      refine wpList_nil ?_
      simp only [Act.put, List.setIfInBounds_toArray, List.set_cons_zero, List.set_cons_succ]
      go_wp2
      go_roundw
      case rel => exact ⟨k + 1, by omega, rfl, HG5.out, FS.out, FE.out, by rw [← Nat.add_assoc]; exact FG.out, FT.out, fun _ => OS.out⟩
      case measure => simp [intOf]; omega
    · obtain rfl : k = 9 := by omega
      obtain ⟨xs, hos⟩ := FOW.out (by omega)
      obtain ⟨b, d, rfl, hb, hd, hd2⟩ : ∃ b d, u6 = .slice (some ⟨b, 0, none⟩) 9 d ∧ W0.heap.size ≤ b ∧ 9 ≤ d ∧ d ≤ 9223372036854775807 := by
        rcases hos.2 with ⟨_, h⟩ | ⟨g, cap, cur, a, b, c, d, e, _⟩
        · omega
        · exact ⟨g, cap, a, b, d, e⟩
      obtain ⟨qe, ce, rfl⟩ := FO.slice FE.out
      obtain ⟨qg, cg, rfl⟩ := FO.slice FG.out
      obtain ⟨qt, ct, rfl⟩ := FO.slice FT.out
      have hcell := hos.cellAt 72 (by omega)
      have hfr := hos.frozenAt 72
      have hlen := hos.1
      rw [List.getElem?_eq_getElem (by omega)] at hcell
      have hgb : w.grownBy (wr.setCell ⟨b, 72, none⟩ (.int .i64 (9 + ((n : Int) + 9) + 9))) v.ownBlock := by
        have h1 := gb_tr HG.out HG5.out
        have hbw : w.heap.size ≤ b := Nat.le_trans HG.out.size hb
        exact ⟨h1.os, h1.tape, h1.output, by simpa using h1.size, fun k hk hne => (heap_setCell_other _ _ _ _ (by show k ≠ b; omega)).trans (h1.block k hk hne)⟩
      have HGB := Lib.hid hgb
      clear hos hgb
      go_wp2
      go_end0
      exact ⟨⟨_, rfl⟩, HGB.out⟩
end Go.Proofs.YtfchbodbkdkcfaaDoor.Fill
