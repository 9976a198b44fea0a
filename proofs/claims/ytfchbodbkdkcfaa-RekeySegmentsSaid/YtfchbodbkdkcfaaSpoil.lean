/- cofferlaw13.spoil of metadata that have segments alone: it writes the segments' own block, and new ones. -/
import Derived.Test.YtfchbodbkdkcfaaSegs4
namespace Go.Proofs.Ytfchbodbkdkcfaa.Coll
open Go.RowKit

def e0 : Value := .string ⟨#[]⟩
def metaC (v : Value) : Array Value := #[.string ⟨#[]⟩, .string ⟨#[]⟩, .string ⟨#[]⟩, .string ⟨#[]⟩, .int .i64 0, .int .u64 0, .int .i64 0, .int .i64 0, .int .i64 0, .string ⟨#[]⟩, .string ⟨#[]⟩, .slice none 0 0, .slice none 0 0, v,
  .bool false, .int .u64 0, .int .u64 0, .bool false, .int .i64 0, .int .u64 0, .int .u64 0, .int .i64 0, .int .i64 0, .bool false, .int .u64 0, .string ⟨#[]⟩, .slice none 0 0]
theorem news_lit (w : World) (cs : Array Value) (t : TypeId) : ∀ j u, cs.toList[j]? = some u → (w.alloc (.cells cs t)).cell? ((⟨w.heap.size, 0, none⟩ : Addr).add j) = some u := by
  intro j u hj
  rw [Addr.add_mid, Nat.zero_add, cell_of_row _ _ j cs t _ (heap_alloc_new w _)]
  simpa using hj
theorem lit_one {cs : Array Value} (h : (cs.toList.all fun u => u.oneCell') = true) : ∀ u ∈ cs.toList, u.oneCell' = true := fun u hu => List.all_eq_true.1 h u hu

theorem slot_info : (Try.prog.info? 64).map (fun i => (i.zero, i.size, i.bytes)) = some (some (.agg #[.int .i64 0, .int .i64 0, .int .i64 0, .int .i64 0, .string ⟨#[]⟩, .string ⟨#[]⟩, .int .i64 0, .int .i64 0, .int .i64 0]), 9, 88) := by kernel_rfl
theorem epoch_info : (Try.prog.info? 66).map (fun i => (i.zero, i.size, i.bytes)) = some (some (.agg #[.int .u64 0, .string ⟨#[]⟩, .string ⟨#[]⟩, .string ⟨#[]⟩, .string ⟨#[]⟩]), 5, 72) := by kernel_rfl
theorem token_info : (Try.prog.info? 70).map (fun i => (i.zero, i.size, i.bytes)) = some (some (.agg #[.int .i64 0, .string ⟨#[]⟩, .slice none 0 0, .string ⟨#[]⟩]), 4, 64) := by kernel_rfl
/-- between the steps -/
structure SP (w : World) (v : Value) (n B : Nat) (wr : World) : Prop where
  box : wr.heap[w.heap.size]? = some (.cells (metaC v) 45 (0, 0))
  grown : w.grownBy wr v.ownBlock
  own : ∃ ys, wr.ownsRow B 59 3 v n ys
theorem gb_tr {a b c : World} {r : Option Nat} (h : a.grownBy b r) (k : b.grownBy c none) : a.grownBy c r := h.trans ⟨k.os, k.tape, k.output, k.size, fun i hi _ => k.block i hi (by simp)⟩
theorem SP.step {w wr w' : World} {v : Value} {n B : Nat} (h : SP w v n B wr) (tmp : Obj) (hg : (wr.alloc tmp).grownBy w' none) : SP w v n B w' := by
  have ga : wr.grownBy (wr.alloc tmp) none := World.grownBy_alloc _ _ _
  have gt : wr.grownBy w' none := gb_tr ga hg
  obtain ⟨ys, hy⟩ := h.own
  exact ⟨(gt.block _ (Array.getElem?_eq_some_iff.1 h.box).1 (by simp)).trans h.box, gb_tr h.grown gt, ys, (hy.kept gt (by cases v.ownBlock <;> simp))⟩
theorem SP.cells {w wr : World} {v : Value} {n B : Nat} (h : SP w v n B wr) : wr.cell? ⟨w.heap.size, 11, none⟩ = some (.slice none 0 0) ∧ wr.cell? ⟨w.heap.size, 12, none⟩ = some (.slice none 0 0) ∧ wr.cell? ⟨w.heap.size, 13, none⟩ = some v ∧ wr.cell? ⟨w.heap.size, 26, none⟩ = some (.slice none 0 0) := by
  refine ⟨?_, ?_, ?_, ?_⟩ <;> rw [cell_of_row wr _ _ _ _ _ h.box] <;> rfl

theorem SP.store {w wr : World} {n B g cap : Nat} (h : SP w (.slice (some ⟨g, 0, none⟩) n cap) n B wr) (hg : g < w.heap.size) (j : Nat) (u : Value) : SP w (.slice (some ⟨g, 0, none⟩) n cap) n B (wr.setCell ⟨g, j, none⟩ u) := by
  obtain ⟨ys, hy⟩ := h.own
  obtain ⟨h1, h2⟩ := hy.stored j u
  refine ⟨?_, ?_, _, h1⟩
  · rw [heap_setCell_other _ _ _ _ (by show w.heap.size ≠ g; omega)]; exact h.box
  · exact h.grown.trans h2
theorem SP.cell {w wr : World} {n B g cap : Nat} (h : SP w (.slice (some ⟨g, 0, none⟩) n cap) n B wr) (j : Nat) (hj : j < n * 3) : (∃ u, wr.cell? ⟨g, j, none⟩ = some u) ∧ wr.frozen? ⟨g, j, none⟩ = false := by
  obtain ⟨ys, hy⟩ := h.own
  have hl := hy.1
  refine ⟨?_, hy.frozenAt j⟩
  rw [hy.cellAt j hj]
  exact ⟨_, List.getElem?_eq_getElem (by omega)⟩

set_option maxRecDepth 100000 in
set_option maxHeartbeats 4000000 in
theorem spoil_any (v : Value) (n B : Nat) (xs : List Value) (w : World) (hB : B ≤ w.heap.size) (hn : n ≤ 2) (hown : w.ownsRow B 59 3 v n xs) :
    Calls Try.prog 15 #[.agg (metaC v)] w fun e w' => (∃ x, e = .returned x) ∧ w.grownBy w' v.ownBlock := by
  have h1 : SP w v n B (w.alloc (.cells (metaC v) 45)) := by
    have ga : w.grownBy (w.alloc (.cells (metaC v) 45)) none := World.grownBy_alloc _ _ _
    exact ⟨heap_alloc_new w _, ⟨ga.os, ga.tape, ga.output, ga.size, fun k hk _ => ga.block k hk (by simp)⟩, xs, hown.alloc _⟩
  have H1 := Lib.hid h1
  have HV : Hid ((v = .slice none 0 0 ∧ n = 0) ∨ ∃ g cap, v = .slice (some ⟨g, 0, none⟩) n cap ∧ n ≤ cap ∧ cap ≤ maxLen ∧ g < w.heap.size) := Lib.hid (by
    rcases hown.2 with h | ⟨g, cap, cur, rfl, _, hg, a, b, _⟩
    · exact .inl h
    · exact .inr ⟨g, cap, rfl, a, b, (Array.getElem?_eq_some_iff.1 hg).1⟩)
  clear h1 hown
  unfold metaC at H1 ⊢
  go_enter Try.func15, Try.ntmps15
  go_upto_region 1 with fail
  obtain ⟨c11, c12, c13, c26⟩ := SP.cells H1.out
  generalize w.alloc (.cells #[.string ⟨#[]⟩, .string ⟨#[]⟩, .string ⟨#[]⟩, .string ⟨#[]⟩, .int .i64 0, .int .u64 0, .int .i64 0, .int .i64 0, .int .i64 0, .string ⟨#[]⟩, .string ⟨#[]⟩, .slice none 0 0, .slice none 0 0, v,
    .bool false, .int .u64 0, .int .u64 0, .bool false, .int .i64 0, .int .u64 0, .int .u64 0, .int .i64 0, .int .i64 0, .bool false, .int .u64 0, .string ⟨#[]⟩, .slice none 0 0] 45) = w1 at *
  go_wp2
  go_loopw [2] (fun i wr => i = .int .i64 0 ∧ w1 = wr) (fun _ _ => 0)
  case atStart => exact ⟨rfl, rfl⟩
  case round =>
    obtain ⟨rfl, rfl⟩ := hrel
    go_wp2
    go_loopw [3] (fun i wr => i = .int .i64 0 ∧ w1 = wr) (fun _ _ => 0)
    case atStart => exact ⟨rfl, rfl⟩
    case round =>
      obtain ⟨rfl, rfl⟩ := hrel
      go_wp2
      go_loopw [4] (fun i wr => ∃ k : Nat, k ≤ n ∧ i = .int .i64 k ∧ SP w v n B wr) (fun i _ => n - (intOf i).toNat)
      case atStart => exact ⟨0, by omega, rfl, H1.out⟩
      case round =>
        obtain ⟨k, hk, rfl, hs⟩ := hrel
        have H2 := Lib.hid hs
        clear H1 c11 c12 c13 c26
        obtain ⟨c11, c12, c13, c26⟩ := hs.cells
        clear hs
        by_cases hlt : k < n
        · rcases HV.out with ⟨_, h0⟩ | ⟨g, cap, rfl, a, b, hg⟩
          · omega
          · obtain ⟨⟨u, hu⟩, hf⟩ := H2.out.cell (k * 3 + 2) (by omega)
            have b' : cap ≤ 9223372036854775807 := b
            go_wp2
            go_roundw
            case rel => exact ⟨k + 1, by omega, rfl, H2.out.store hg _ _⟩
            case measure => simp [intOf]; omega
        · have hlen : ∃ q cp, v = .slice q n cp := by
            rcases HV.out with ⟨rfl, rfl⟩ | ⟨g, cap, rfl, _⟩
            · exact ⟨_, _, rfl⟩
            · exact ⟨_, _, rfl⟩
          obtain ⟨q, cp, rfl⟩ := hlen
          go_wp2
          go_loopw [5] (fun i wx => i = .int .i64 0 ∧ wr = wx) (fun _ _ => 0)
          case atStart => exact ⟨rfl, rfl⟩
          case round =>
            obtain ⟨rfl, rfl⟩ := hrel
            obtain ⟨si, sh, s0, s1, s2⟩ := info_parts slot_info
            obtain ⟨ei, eh, e0, e1, e2⟩ := info_parts epoch_info
            obtain ⟨gi, gh, g0, g1, g2⟩ := info_parts sg_info
            obtain ⟨ti, th, t0, t1, t2⟩ := info_parts token_info
            have hwr : w.heap.size < wr.heap.size := (Array.getElem?_eq_some_iff.1 H2.out.box).1
            go_upto_region 19 with (first | (at_builtin; refine wpList_append_own_at _ rfl _ _ 41 rfl (w.heap.size + 1) 64 si (.agg #[.int .i64 0, .int .i64 0, .int .i64 0, .int .i64 0, .string ⟨#[]⟩, .string ⟨#[]⟩, .int .i64 0, .int .i64 0, .int .i64 0]) 9 88 Try.underlying41 sh s0 s1 s2 rfl (by decide) _ 0 [] rfl (World.ownsRow_nil _ _ _ _) ⟨wr.heap.size, 0, none⟩ 4 4 _ rfl (by rfl) (news_lit wr _ _) (lit_one (by rfl)) (by unfold maxLen; omega) (by omega) ?_ ?_) | fail)
            · simp; omega
            · intro v1 w2 hown hgrow _ _
              have hown' : w2.ownsRow (w.heap.size + 1) 64 9 v1 (3 + 1) _ := hown
              obtain ⟨b1, d1, rfl⟩ := ownsRow_succ hown'
              have S2 := Lib.hid hown'
              have H3 := Lib.hid (H2.out.step _ hgrow)
              clear hown hown' hgrow c11 c12 c26 H2 hwr
              obtain ⟨c11, c12, c13, c26⟩ := H3.out.cells
              have hwr : w.heap.size < w2.heap.size := (Array.getElem?_eq_some_iff.1 H3.out.box).1
              go_upto_region 20 with (first | (at_builtin; refine wpList_append_own_at _ rfl _ _ 42 rfl (w.heap.size + 1) 66 ei (.agg #[.int .u64 0, .string ⟨#[]⟩, .string ⟨#[]⟩, .string ⟨#[]⟩, .string ⟨#[]⟩]) 5 72 Try.underlying42 eh e0 e1 e2 rfl (by decide) _ 0 [] rfl (World.ownsRow_nil _ _ _ _) ⟨w2.heap.size, 0, none⟩ 4 4 _ rfl (by rfl) (news_lit w2 _ _) (lit_one (by rfl)) (by unfold maxLen; omega) (by omega) ?_ ?_) | fail)
              · simp; omega
              · intro v2 w3 hown hgrow _ _
                have hown' : w3.ownsRow (w.heap.size + 1) 66 5 v2 (3 + 1) _ := hown
                obtain ⟨b2, d2, rfl⟩ := ownsRow_succ hown'
                have S3 := Lib.hid ((S2.out.alloc _).kept hgrow (.inr (by simp [Value.ownBlock])))
                have H4 := Lib.hid (H3.out.step _ hgrow)
                clear hown hown' hgrow c11 c12 c13 c26 H3 hwr S2
                obtain ⟨c11, c12, c13, c26⟩ := H4.out.cells
                have hwr : w.heap.size < w3.heap.size := (Array.getElem?_eq_some_iff.1 H4.out.box).1
                obtain ⟨ys, hy⟩ := H4.out.own
                have HY := Lib.hid hy
                clear hy
                go_upto_region 21 with (first | (at_builtin; refine wpList_append_own_at _ rfl _ _ 30 rfl B 59 gi (.agg #[.int .u64 0, .int .u64 0, .int .u64 0]) 3 24 Try.underlying30 gh g0 g1 g2 rfl (by decide) _ n ys rfl (HY.out.alloc _) ⟨w3.heap.size, 0, none⟩ 4 4 _ rfl (by rfl) (news_lit w3 _ _) (lit_one (by rfl)) (by unfold maxLen; omega) (by omega) ?_ ?_) | fail)
                · simp; omega
                · intro v3 w4 hown hgrow _ _
                  have hq : ∀ g, (Value.slice q n cp).ownBlock = some g → g < w.heap.size := fun g hg => by
                    rcases HV.out with ⟨e, _⟩ | ⟨g', cap', e, _, _, h⟩
                    · rw [e] at hg; cases hg
                    · rw [e] at hg
                      obtain rfl : g' = g := by simpa [Value.ownBlock] using hg
                      exact h
                  have hl3 : ∃ q3 c3, v3 = .slice q3 (n + 4) c3 := by
                    rcases hown.2 with ⟨_, h⟩ | ⟨g, cap, cur, rfl, _⟩
                    · omega
                    · exact ⟨_, _, rfl⟩
                  obtain ⟨q3, c3, rfl⟩ := hl3
                  have hb1 := (S3.out.lt b1 rfl).1
                  have S4 := Lib.hid ((S3.out.alloc _).kept hgrow (.inr (fun e => by have := hq b1 e.symm; omega)))
                  have hbox4 := (hgrow.block w.heap.size (by simp; omega) (fun e => by have := hq _ e.symm; omega)).trans ((Below.heap_alloc w3 _ _ hwr).trans H4.out.box)
                  have G4 := Lib.hid (H4.out.grown.trans ((World.grownBy_alloc w3 _ _).trans hgrow))
                  have c26' := cell_of_row w4 w.heap.size 26 _ _ _ hbox4
                  simp [metaC] at c26'
                  have hwr4 : w.heap.size < w4.heap.size := (Array.getElem?_eq_some_iff.1 hbox4).1
                  clear hown hgrow c11 c12 c13 c26 H4 hwr S3 HY hbox4
                  go_upto_region 22 with (first | (at_builtin; refine wpList_append_own_at _ rfl _ _ 43 rfl (w.heap.size + 1) 70 ti (.agg #[.int .i64 0, .string ⟨#[]⟩, .slice none 0 0, .string ⟨#[]⟩]) 4 64 Try.underlying43 th t0 t1 t2 rfl (by decide) _ 0 [] rfl (World.ownsRow_nil _ _ _ _) ⟨w4.heap.size, 0, none⟩ 4 4 _ rfl (by rfl) (news_lit w4 _ _) (lit_one (by rfl)) (by unfold maxLen; omega) (by omega) ?_ ?_) | fail)
                  · simp; omega
                  · intro v4 w5 hown hgrow _ _
                    have hown' : w5.ownsRow (w.heap.size + 1) 70 4 v4 (3 + 1) _ := hown
                    obtain ⟨b4, d4, rfl⟩ := ownsRow_succ hown'
                    have S5 := (S4.out.alloc _).kept hgrow (.inr (by simp [Value.ownBlock]))
                    have hgn : (w4.alloc _).grownBy w5 none := hgrow
                    have G5 := Lib.hid (gb_tr G4.out (gb_tr (World.grownBy_alloc w4 _ none) hgn))
                    have hcell := S5.cellAt 27 (by omega)
                    have hfr := S5.frozenAt 27
                    have hlen := S5.1
                    rw [List.getElem?_eq_getElem (by omega)] at hcell
                    have hd1 : 4 ≤ d1 ∧ d1 ≤ 9223372036854775807 := by
                      rcases S5.2 with ⟨e, _⟩ | ⟨g, cap, cur, e, _, _, a, b, _⟩
                      · cases e
                      · simp only [Value.slice.injEq] at e
                        obtain ⟨_, _, rfl⟩ := e
                        exact ⟨by omega, b⟩
                    clear hown hown' hgrow hgn S5 S4 G4 c26'
                    go_wp2
                    go_end0
                    refine ⟨⟨_, rfl⟩, ?_⟩
                    exact ⟨G5.out.os, G5.out.tape, G5.out.output, by have := G5.out.size; simpa using this, fun k hk hne => (Below.heap_setCell _ _ _ k (by show k ≠ b1; omega)).trans (G5.out.block k hk hne)⟩
end Go.Proofs.Ytfchbodbkdkcfaa.Coll
