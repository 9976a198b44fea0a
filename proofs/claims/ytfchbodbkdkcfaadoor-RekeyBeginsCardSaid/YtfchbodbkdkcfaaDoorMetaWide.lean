/- wide: have the tokens more than 65536 numbers of keyslots together? -/
import Derived.Test.YtfchbodbkdkcfaaDoorMeta
namespace Go.Proofs.YtfchbodbkdkcfaaDoor.Meta
open Go.RowKit Go.Lib Go.Proofs.YtfchbodbkdkcfaaDoor.Coll

def totN (L : List TokD) (k : Nat) : Nat := ((L.take k).map fun d => d.n).sum
theorem totN_succ (L : List TokD) (k : Nat) (h : k < L.length) : totN L (k + 1) = totN L k + (L[k]'h).n := by
  unfold totN
  rw [List.take_add_one, List.getElem?_eq_getElem h, List.map_append, List.sum_append]
  rfl
theorem totN_mono (L : List TokD) (k : Nat) : ∀ j, totN L k ≤ totN L (k + j)
  | 0 => Nat.le_refl _
  | j + 1 => by
    have := totN_mono L k j
    by_cases h : k + j < L.length
    · rw [show k + (j + 1) = k + j + 1 by omega, totN_succ L (k + j) h]; omega
    · have e : totN L (k + (j + 1)) = totN L (k + j) := by
        unfold totN
        rw [List.take_of_length_le (by omega), List.take_of_length_le (by omega)]
      omega
def wideB (m : MetaD) : Bool := decide (65536 < totN m.toks m.toks.length)
/-- a token's cells -/
theorem tok_cells {w : World} {q : Option Addr} {L : List TokD} (h : LV tokC w q L) (k : Nat) (hk : k < L.length) : ∃ g off, q = some ⟨g, off, none⟩ ∧ w.cell? ⟨g, off + k * 4, none⟩ = some (.int .i64 (L[k]'hk).num) ∧ w.cell? ⟨g, off + (k * 4 + 1), none⟩ = some (.string (L[k]'hk).kind) ∧
    w.cell? ⟨g, off + (k * 4 + 2), none⟩ = some (.slice (L[k]'hk).q (L[k]'hk).n (L[k]'hk).cap) ∧ w.cell? ⟨g, off + (k * 4 + 3), none⟩ = some (.string (L[k]'hk).note) := by
  have e : ∀ j, j < 4 → (L.flatMap tokC)[k * 4 + j]? = (tokC (L[k]'hk))[j]? := fun j hj => flat_get (sz := 4) (fun _ => rfl) L k j hk hj
  obtain ⟨g, off, hq, h0⟩ := h (k * 4) _ (by rw [show k * 4 = k * 4 + 0 from rfl, e 0 (by omega)]; rfl)
  obtain ⟨g1, o1, hq1, h1⟩ := h (k * 4 + 1) _ (by rw [e 1 (by omega)]; rfl)
  obtain ⟨g2, o2, hq2, h2⟩ := h (k * 4 + 2) _ (by rw [e 2 (by omega)]; rfl)
  obtain ⟨g3, o3, hq3, h3⟩ := h (k * 4 + 3) _ (by rw [e 3 (by omega)]; rfl)
  rw [hq] at hq1 hq2 hq3
  cases hq1; cases hq2; cases hq3
  exact ⟨g, off, hq, h0, h1, h2, h3⟩
def metaA (m : MetaD) (p : Places) : Array Value := (metaL m (.slice p.qs m.slots.length p.ks) (.slice p.qe m.epochs.length p.ke) (.slice p.qg m.segs.length p.kg) (.slice p.qt m.toks.length p.kt)).toArray
theorem metaV_eq (m : MetaD) (p : Places) : metaV m p = .agg (metaA m p) := rfl

set_option maxRecDepth 100000 in
set_option maxHeartbeats 4000000 in
theorem wide13_any (m : MetaD) (p : Places) (w : World) (h : MIn w m p) : Calls Tryd.prog 30 #[metaV m p] w fun e w' => e = .returned (.bool (wideB m)) ∧ Below w.heap.size w w' := by
  obtain ⟨B, hB⟩ : ∃ B, wideB m = B := ⟨_, rfl⟩
  rw [hB]
  have HB := Lib.hid hB
  unfold wideB at HB
  clear hB
  have HN : Hid (∀ k (hk : k < m.toks.length), (m.toks[k]'hk).n ≤ 17592186043904) := Lib.hid (fun k hk => (h.tok _ (List.getElem_mem hk)).2.2.2.2)
  have HT := Lib.hid h.t.lv
  have hlen : m.toks.length ≤ 9223372036854775807 := Nat.le_trans h.t.le (by have := h.t.max; unfold maxLen at this; omega)
  clear h
  rw [metaV_eq]
  have x26 : (metaA m p)[26]? = some (.slice p.qt m.toks.length p.kt) := rfl
  generalize metaA m p = cs at x26 ⊢
  go_enter Tryd.func30, Tryd.ntmps30
  go_upto_region 1 with fail
  have o1 := heap_alloc_new w (.cells cs 56)
  have b1 : Below w.heap.size w (w.alloc (.cells cs 56)) := (Below.refl _ _).alloc (Nat.le_refl _) _
  generalize w.alloc (.cells cs 56) = w1 at *
  have r1 := cell_of_row w1 w.heap.size 26 _ _ _ o1
  rw [x26] at r1
  have hl1 := (Array.getElem?_eq_some_iff.1 o1).1
  have HT1 := Lib.hid b1
  clear o1 x26 b1
  go_wp2
  go_loopw [4, 3] (fun i t wr => ∃ k : Nat, k ≤ m.toks.length ∧ i = .int .i64 k ∧ t = .int .i64 (totN m.toks k) ∧ totN m.toks k ≤ 35184372088832 ∧ Below w1.heap.size w1 wr) (fun i _ _ => m.toks.length - (intOf i).toNat)
  case atStart => exact ⟨0, by omega, rfl, rfl, by simp [totN], Below.refl _ _⟩
  case round =>
    obtain ⟨k, hk, rfl, rfl, hle, hb⟩ := hrel
    have r2 := (hb.cell (p := ⟨w.heap.size, 26, none⟩) hl1).trans r1
    have HR := Lib.hid hb
    clear hb r1
    by_cases hlt : k < m.toks.length
    · by_cases hn : totN m.toks k ≤ 65536
      · obtain ⟨g, off, hq, _, _, hc, _⟩ := tok_cells HT.out k hlt
        have hc1 := (HR.out.cell (p := ⟨g, off + (k * 4 + 2), none⟩) (Nat.lt_of_lt_of_le (Frame.block_lt hc) HT1.out.size)).trans ((HT1.out.cell (Frame.block_lt hc)).trans hc)
        have hs := totN_succ m.toks k hlt
        have hN := HN.out k hlt
        rw [hq] at r2
        rw [← Nat.add_assoc] at hc1
        clear hc
        go_wp2
        go_roundw
        case rel => exact ⟨k + 1, by omega, rfl, by rw [hs]; simp, by omega, HR.out⟩
        case measure => simp [intOf]; omega
      · have e : B = true := by
          rw [← HB.out]
          have := totN_mono m.toks k (m.toks.length - k)
          rw [show k + (m.toks.length - k) = m.toks.length by omega] at this
          exact decide_eq_true (by omega)
        subst e
        go_wp2
        go_ret
        exact ⟨by simp, HT1.out.trans (HR.out.mono HT1.out.size)⟩
    · obtain rfl : k = m.toks.length := by omega
      go_wp2
      go_ret
      exact ⟨by rw [← HB.out]; simp; omega, HT1.out.trans (HR.out.mono HT1.out.size)⟩

set_option maxRecDepth 100000 in
set_option maxHeartbeats 4000000 in
theorem wide09_any (m : MetaD) (p : Places) (w : World) (h : MIn w m p) : Calls Tryd.prog 23 #[metaV m p] w fun e w' => e = .returned (.bool (wideB m)) ∧ Below w.heap.size w w' := by
  obtain ⟨B, hB⟩ : ∃ B, wideB m = B := ⟨_, rfl⟩
  rw [hB]
  have HB := Lib.hid hB
  unfold wideB at HB
  clear hB
  have HN : Hid (∀ k (hk : k < m.toks.length), (m.toks[k]'hk).n ≤ 17592186043904) := Lib.hid (fun k hk => (h.tok _ (List.getElem_mem hk)).2.2.2.2)
  have HT := Lib.hid h.t.lv
  have hlen : m.toks.length ≤ 9223372036854775807 := Nat.le_trans h.t.le (by have := h.t.max; unfold maxLen at this; omega)
  clear h
  rw [metaV_eq]
  have x26 : (metaA m p)[26]? = some (.slice p.qt m.toks.length p.kt) := rfl
  generalize metaA m p = cs at x26 ⊢
  go_enter Tryd.func23, Tryd.ntmps23
  go_upto_region 1 with fail
  have o1 := heap_alloc_new w (.cells cs 56)
  have b1 : Below w.heap.size w (w.alloc (.cells cs 56)) := (Below.refl _ _).alloc (Nat.le_refl _) _
  generalize w.alloc (.cells cs 56) = w1 at *
  have r1 := cell_of_row w1 w.heap.size 26 _ _ _ o1
  rw [x26] at r1
  have hl1 := (Array.getElem?_eq_some_iff.1 o1).1
  have HT1 := Lib.hid b1
  clear o1 x26 b1
  go_wp2
  go_loopw [4, 3] (fun i t wr => ∃ k : Nat, k ≤ m.toks.length ∧ i = .int .i64 k ∧ t = .int .i64 (totN m.toks k) ∧ totN m.toks k ≤ 35184372088832 ∧ Below w1.heap.size w1 wr) (fun i _ _ => m.toks.length - (intOf i).toNat)
  case atStart => exact ⟨0, by omega, rfl, rfl, by simp [totN], Below.refl _ _⟩
  case round =>
    obtain ⟨k, hk, rfl, rfl, hle, hb⟩ := hrel
    have r2 := (hb.cell (p := ⟨w.heap.size, 26, none⟩) hl1).trans r1
    have HR := Lib.hid hb
    clear hb r1
    by_cases hlt : k < m.toks.length
    · by_cases hn : totN m.toks k ≤ 65536
      · obtain ⟨g, off, hq, _, _, hc, _⟩ := tok_cells HT.out k hlt
        have hc1 := (HR.out.cell (p := ⟨g, off + (k * 4 + 2), none⟩) (Nat.lt_of_lt_of_le (Frame.block_lt hc) HT1.out.size)).trans ((HT1.out.cell (Frame.block_lt hc)).trans hc)
        have hs := totN_succ m.toks k hlt
        have hN := HN.out k hlt
        rw [hq] at r2
        rw [← Nat.add_assoc] at hc1
        clear hc
        go_wp2
        go_roundw
        case rel => exact ⟨k + 1, by omega, rfl, by rw [hs]; simp, by omega, HR.out⟩
        case measure => simp [intOf]; omega
      · have e : B = true := by
          rw [← HB.out]
          have := totN_mono m.toks k (m.toks.length - k)
          rw [show k + (m.toks.length - k) = m.toks.length by omega] at this
          exact decide_eq_true (by omega)
        subst e
        go_wp2
        go_ret
        exact ⟨by simp, HT1.out.trans (HR.out.mono HT1.out.size)⟩
    · obtain rfl : k = m.toks.length := by omega
      go_wp2
      go_ret
      exact ⟨by rw [← HB.out]; simp; omega, HT1.out.trans (HR.out.mono HT1.out.size)⟩
end Go.Proofs.YtfchbodbkdkcfaaDoor.Meta
